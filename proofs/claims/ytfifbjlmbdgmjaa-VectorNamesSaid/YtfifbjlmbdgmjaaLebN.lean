/- leb: one round of a Sink's Number. -/
import Derived.Test.YtfifbjlmbdgmjaaLebM
namespace Go.Proofs.Ytfifbjlmbdgmjaa
open Go.RowKit Go.Shelf
attribute [local go_sem] Oper.semAt_some
attribute [local go_sem ↓] app_hide

theorem own_ne {W : World} {B : Nat} {e t : TypeId} {s k n : Nat} {v : Value} {xs : List Value} {cs : Array Value} {fr : Nat × Nat} (h : W.ownsRow B e s v n xs) (hk : W.heap[k]? = some (.cells cs t fr)) (ht : t ≠ e) : v.ownBlock ≠ some k := fun hb => by
  rcases h.2 with ⟨rfl, _⟩ | ⟨g, cap, cur, rfl, _, hg, _⟩
  · cases hb
  · obtain rfl : g = k := by simpa [Value.ownBlock] using hb
    rw [hg] at hk
    cases hk
    exact ht rfl
theorem own_cells {W : World} {B : Nat} {e : TypeId} {s k n : Nat} {v : Value} {xs : List Value} {o : Obj} (h : W.ownsRow B e s v n xs) (hb : v.ownBlock = some k) (hk : W.heap[k]? = some o) : o.isCells = true := by
  rcases h.2 with ⟨rfl, _⟩ | ⟨g, cap, cur, rfl, _, hg, _⟩
  · cases hb
  · obtain rfl : g = k := by simpa [Value.ownBlock] using hb
    rw [hg] at hk
    cases hk
    rfl
/-- What holds between two rounds: the Sink in block g, what came, where the boxes lie. -/
def SinkI (g : Nat) (xs : List UInt8) (v : Value) (w : World) (pre : List UInt8) (W : World) : Prop :=
  W.heap[w.heap.size]? = some (.cells #[.pointer (some ⟨g, 0, none⟩)] 73 (0, 0)) ∧ (∃ u, W.heap[w.heap.size + 1]? = some (.cells #[u] 31 (0, 0))) ∧
    ∃ v1, SinkAt g v1 (xs ++ pre) W ∧ (∀ k, v1.ownBlock = some k → k < w.heap.size → v.ownBlock = some k) ∧ Kept (fun k => k = g ∨ v.ownBlock = some k) w W
def sinkA (g m S : Nat) (x : UInt8) : Act := { tmps := #[.pointer (some ⟨g, 0, none⟩), .int .u64 (m : Int), .pointer (some ⟨S, 0, none⟩), undef, .pointer none, .int .u8 (x.toNat : Int), .pointer (some ⟨g, 0, none⟩), .bool true, .int .u64 (m : Int), .func (.func 52) #[] #[.pointer (some ⟨S + 1, 0, none⟩)], .int .u8 (x.toNat : Int), undef, undef, undef, undef, undef, undef, undef, undef, undef, undef, undef], defers := [] }
set_option maxRecDepth 100000 in
set_option maxHeartbeats 4000000 in
theorem number_body (l g m : Nat) (xs : List UInt8) (v : Value) (w : World) (hgl : g < w.heap.size) (pre : List UInt8) (x : UInt8) (W : World) (hall : xs.length + pre.length ≤ 100000100) (hI : SinkI g xs v w pre W) (hlt : w.heap.size + 1 < W.heap.size) :
    (Code.block 1 (Code.region 4 #[{ dst := some 11, op := Op.load 73 (Operand.tmp 2), type := 73, pos := "leb.go:41", after := #[], guard := none }, { dst := some 12, op := Op.load 73 (Operand.tmp 2), type := 73, pos := "leb.go:41", after := #[], guard := none }, { dst := some 13, op := Op.nilCheck (Operand.tmp 12), type := 0, pos := "leb.go:41", after := #[{ on := 1, ground := Ground.data }], guard := none }, { dst := some 14, op := Op.fieldAddr 72 (Operand.tmp 13) 0, type := 0, pos := "leb.go:41", after := #[{ on := 2, ground := Ground.data }], guard := none }, { dst := some 15, op := Op.load 33 (Operand.tmp 14), type := 33, pos := "leb.go:41", after := #[{ on := 3, ground := Ground.data }], guard := none }, { dst := some 16, op := Op.move (Operand.tmp 5), type := 5, pos := "leb.go:41", after := #[], guard := none }, { dst := some 17, op := Op.buildSlice 33 1 #[(0, Operand.tmp 16)], type := 33, pos := "leb.go:41", after := #[{ on := 5, ground := Ground.data }], guard := none }, { dst := some 18, op := Op.call { callee := Callee.builtin Builtin.append, args := #[Operand.tmp 15, Operand.tmp 17], argTypes := #[33, 33] }, type := 33, pos := "leb.go:41", after := #[{ on := 4, ground := Ground.data }, { on := 6, ground := Ground.data }], guard := none }, { dst := some 19, op := Op.nilCheck (Operand.tmp 11), type := 0, pos := "leb.go:41", after := #[{ on := 0, ground := Ground.data }, { on := 0, ground := Ground.phase }, { on := 1, ground := Ground.phase }, { on := 2, ground := Ground.phase }, { on := 3, ground := Ground.phase }, { on := 4, ground := Ground.phase }, { on := 5, ground := Ground.phase }, { on := 6, ground := Ground.phase }, { on := 7, ground := Ground.phase }], guard := none }, { dst := some 20, op := Op.fieldAddr 72 (Operand.tmp 19) 0, type := 0, pos := "leb.go:41", after := #[{ on := 8, ground := Ground.data }, { on := 0, ground := Ground.phase }, { on := 1, ground := Ground.phase }, { on := 2, ground := Ground.phase }, { on := 3, ground := Ground.phase }, { on := 4, ground := Ground.phase }, { on := 5, ground := Ground.phase }, { on := 6, ground := Ground.phase }, { on := 7, ground := Ground.phase }], guard := none }, { dst := none, op := Op.store 33 (Operand.tmp 20) (Operand.tmp 18), type := 0, pos := "leb.go:41", after := #[{ on := 9, ground := Ground.data }, { on := 7, ground := Ground.data }, { on := 7, ground := Ground.chain }, { on := 0, ground := Ground.phase }, { on := 1, ground := Ground.phase }, { on := 2, ground := Ground.phase }, { on := 3, ground := Ground.phase }, { on := 4, ground := Ground.phase }, { on := 5, ground := Ground.phase }, { on := 6, ground := Ground.phase }, { on := 7, ground := Ground.phase }], guard := none }] true)).wpIn (Fence.wide.inRound l) 3 Try.prog (wentOn ⟨w.heap.size + 1, 0, none⟩ (SinkI g xs v w) (pre ++ [x]) W) (sinkA g m w.heap.size x) W := by
  obtain ⟨i1, ⟨u, i4⟩, v1, ⟨i2, i3⟩, i5x, i6⟩ := hI
  have i5 := own_ne i3 i1 (by decide)
  have i4x := own_ne i3 i4 (by decide)
  have hgW := lt_get i2
  have hsW := lt_get i1
  obtain ⟨O, hO⟩ : ∃ O : Obj, O = .cells #[.int .u8 (x.toNat : Int)] 5 := ⟨_, rfl⟩
  have hbA : Below W.heap.size W (W.alloc O).drew := ((Below.refl _ W).alloc (Nat.le_refl _) _).drew
  have c1 : W.drew.cell? ⟨w.heap.size, 0, none⟩ = some (.pointer (some ⟨g, 0, none⟩)) := by
    show W.cell? _ = _
    rw [cell_of_row _ _ _ _ _ _ i1]; rfl
  have c2 : W.drew.cell? ⟨g, 0, none⟩ = some v1 := by
    show W.cell? _ = _
    rw [cell_of_row _ _ _ _ _ _ i2]; rfl
  have a1 : (W.alloc O).drew.cell? ⟨w.heap.size, 0, none⟩ = some (.pointer (some ⟨g, 0, none⟩)) := (hbA.cell (p := ⟨w.heap.size, 0, none⟩) hsW).trans (show W.cell? _ = _ from c1)
  have a2 : (W.alloc O).drew.cell? ⟨g, 0, none⟩ = some v1 := (hbA.cell (p := ⟨g, 0, none⟩) hgW).trans (show W.cell? _ = _ from c2)
  have i3A : (W.alloc O).drew.ownsRow (g + 1) 5 1 v1 (xs ++ pre).length (u8v (xs ++ pre)) := own_below (w := W) i3 hbA
  have hrd : RdC (W.alloc O).drew (some ⟨W.heap.size, 0, none⟩) (u8v [x]) := fun j u hj => by
    refine ⟨_, rfl, ?_⟩
    have hn : (W.alloc O).drew.heap[W.heap.size]? = some (.cells #[.int .u8 (x.toNat : Int)] 5 (0, 0)) := by rw [hO]; exact heap_alloc_new W _
    rw [addr_add_plain, Nat.zero_add, cell_of_row _ _ j _ _ _ hn, ← hj]
    simp [u8v]
  obtain ⟨v2, w2, hrun, ho, hg⟩ := run_app elt8 33 (W.alloc O).drew (g + 1) v1 _ _ i3A (some ⟨W.heap.size, 0, none⟩) 1 1 (u8v [x]) rfl hrd (u8v_one _) (by rw [List.length_append]; unfold maxLen; omega) (by rw [List.length_append]; omega) (by show g + 1 ≤ (W.alloc O).heap.size; rw [World.size_alloc]; omega)
  obtain ⟨g2, cap2, rfl⟩ := ownsRow_succ ho
  have hng : some g ≠ v1.ownBlock := fun e => by have := (i3.lt g e.symm).1; omega
  have z2 : w2.heap[g]? = some (.cells #[v1] 72 (0, 0)) := by
    rw [hg.block g (by show g < (W.alloc O).heap.size; rw [World.size_alloc]; omega) hng]
    exact (hbA.block g hgW).trans i2
  have d2 : w2.cell? ⟨g, 0, none⟩ = some v1 := by rw [cell_of_row _ _ _ _ _ _ z2]; rfl
  have z1 : w2.heap[w.heap.size]? = some (.cells #[.pointer (some ⟨g, 0, none⟩)] 73 (0, 0)) := by
    rw [hg.block w.heap.size (by show w.heap.size < (W.alloc O).heap.size; rw [World.size_alloc]; omega) (fun e => i5 e.symm)]
    exact (hbA.block w.heap.size hsW).trans i1
  have d1 : w2.cell? ⟨w.heap.size, 0, none⟩ = some (.pointer (some ⟨g, 0, none⟩)) := by rw [cell_of_row _ _ _ _ _ _ z1]; rfl
  have e2 : w2.frozen? ⟨g, 0, none⟩ = false := frozen_of_row _ _ 0 _ _ z2
  have horg := app_origin elt8 33 (W.alloc O).drew (g + 1) v1 _ _ i3A ⟨W.heap.size, 0, none⟩ 1 1 (u8v [x]) rfl hrd (u8v_one _) (by rw [List.length_append]; unfold maxLen; omega) (by rw [List.length_append]; omega) (by omega) _ _ hrun
  rw [hO] at a1 a2 hrun
  rw [app_hide] at hrun
  have hfin : ∀ a, wentOn ⟨w.heap.size + 1, 0, none⟩ (SinkI g xs v w) (pre ++ [x]) W .normal a (w2.setCell ⟨g, 0, none⟩ (.slice (some ⟨g2, 0, none⟩) (xs.length + pre.length + 1) cap2)) := fun a => by
    have hlen : (xs ++ pre).length + 1 = xs.length + pre.length + 1 := by rw [List.length_append]
    rw [hlen] at ho horg
    have z4 : w2.heap[w.heap.size + 1]? = W.heap[w.heap.size + 1]? := by
      rw [hg.block (w.heap.size + 1) (by show w.heap.size + 1 < (W.alloc O).heap.size; rw [World.size_alloc]; omega) (fun e => i4x e.symm)]
      exact hbA.block (w.heap.size + 1) hlt
    have hset : ∀ k, k ≠ g → (w2.setCell ⟨g, 0, none⟩ (.slice (some ⟨g2, 0, none⟩) (xs.length + pre.length + 1) cap2)).heap[k]? = w2.heap[k]? := fun k hk => heap_setCell_other _ _ _ _ hk
    have hown2 := (ho.lt g2 rfl).1
    have hgs : w2.grownBy (w2.setCell ⟨g, 0, none⟩ (.slice (some ⟨g2, 0, none⟩) (xs.length + pre.length + 1) cap2)) (some g) := ⟨rfl, rfl, rfl, by simp, fun k _ hne => hset k (fun e => hne (by rw [e]))⟩
    refine ⟨?_, ⟨?_, ?_⟩, ?_, ⟨u, ?_⟩, _, ⟨heap_setCell_same w2 g 0 #[v1] _ _ z2, ?_⟩, ?_, ?_⟩
    · exact (((KeepsOthers.alloc W O).trans (KeepsOthers.drew _)).trans (KeepsOthers.of_grownBy hg fun j o e hj => own_cells i3A e hj)).trans (KeepsOthers.setCell _ _ _)
    · exact World.cell?_of_block ((hset _ (show w.heap.size + 1 ≠ g by omega)).trans z4)
    · exact World.frozen?_of_block ((hset _ (show w.heap.size + 1 ≠ g by omega)).trans z4)
    · rw [hset _ (by omega)]; exact z1
    · rw [hset _ (by omega), z4]; exact i4
    · have := ho.kept hgs (.inr (fun e => by
        have : g2 = g := by simpa [Value.ownBlock] using e
        omega))
      rw [← u8v_append, List.append_assoc] at this
      rwa [show (xs ++ (pre ++ [x])).length = xs.length + pre.length + 1 by simp; omega]
    · intro k hk hkw
      rcases horg with h | h
      · exact i5x k (h.symm.trans hk) hkw
      · rw [h] at hk
        have h2 : ((W.alloc O).drew).heap.size = W.heap.size + 1 := by show (W.alloc O).heap.size = _; rw [World.size_alloc]
        have h3 := Option.some.inj hk
        omega
    · refine ⟨hg.os.trans i6.os, hg.tape.trans i6.tape, hg.output.trans i6.output, ?_, fun k hk he => ?_⟩
      · have h1 := hg.size
        have h2 : ((W.alloc O).drew).heap.size = W.heap.size + 1 := by show (W.alloc O).heap.size = _; rw [World.size_alloc]
        have h3 := i6.size
        have h4 : (w2.setCell ⟨g, 0, none⟩ (.slice (some ⟨g2, 0, none⟩) (xs.length + pre.length + 1) cap2)).heap.size = w2.heap.size := by simp
        omega
      · rw [hset k (fun e => he (.inl e)), hg.block k (by show k < (W.alloc O).heap.size; rw [World.size_alloc]; have := i6.size; omega) (fun e => he (.inr (i5x k e.symm hk)))]
        rw [hbA.block k (by have := i6.size; omega)]
        exact i6.block k hk he
  clear hrd horg
  have hmx : Try.prog.follows .mixedOrders = true := by kernel_rfl
  unfold sinkA
  gi_wp2
  gi_region_with_o (fail)
  all_goals gi_wp2
  all_goals exact hfin _
end Go.Proofs.Ytfifbjlmbdgmjaa
