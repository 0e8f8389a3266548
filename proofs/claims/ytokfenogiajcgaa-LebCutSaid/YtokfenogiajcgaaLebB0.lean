/- leb: a Sink that is written by calls that came in. -/
import Derived.Test.YtokfenogiajcgaaLebC
namespace Go.Proofs.Ytokfenogiajcgaa
open Go.RowKit
attribute [local go_sem] Oper.semAt_some

set_option maxHeartbeats 1000000 in
theorem bytes_any2 (g : Nat) (v : Value) (xs : List UInt8) (A : Option Addr) (n c : Nat) (l : List UInt8) (hl : l.length = n) (hn : xs.length + n ≤ 10000000) (w : World) (hS : SinkAt g v xs w) (hr : RdC w A (u8v l)) (hA : ∀ ad, A = some ad → l ≠ [] → ad.block ≠ g ∧ v.ownBlock ≠ some ad.block) :
    Calls Try.prog 16 #[.pointer (some ⟨g, 0, none⟩), .slice A n c] w fun e w' => e = .returned (.pointer (some ⟨g, 0, none⟩)) ∧ ∃ v', SinkStep g v w (xs ++ (numB n ++ l)) v' w' := by
  have h10 := numB_ten n (by omega)
  go_enter Try.func16, Try.ntmps16
  go_wp2_with (go_at_call 13; refine (number_any g n (by omega) xs (by omega) v w hS).mono ?_; rintro e w1 ⟨rfl, v1, hs1⟩)
  have hr1 : RdC w1 A (u8v l) := fun j u hj => by
    obtain ⟨ad, e, hc⟩ := hr j u hj
    obtain ⟨h2, h3⟩ := hA ad e (fun h => by rw [h] at hj; simp [u8v] at hj)
    have h1 := World.block_lt_of_cell? w _ hc
    rw [addr_add_block] at h1
    refine ⟨ad, e, ?_⟩
    exact (World.cell?_of_block (w := w) (w' := w1) (by rw [addr_add_block]; exact hs1.2.2.block _ h1 (fun h => h.elim h2 h3))).trans hc
  go_wp2_with (go_at_call 17; refine (raw_any g v1 (xs ++ numB n) A n c l hl (by rw [List.length_append]; omega) w1 hs1.1 hr1).mono ?_; rintro e w2 ⟨rfl, v2, hs2⟩)
  go_ret
  rw [List.append_assoc] at hs2
  exact ⟨rfl, v2, hs1.trans hs2⟩
/-- A Sink in block g, with the bytes xs, beyond what came in. -/
structure Snk (w0 : World) (g : Nat) (xs : List UInt8) (W : World) : Prop where
  s : ∃ v, SinkAt g v xs W
  bel : Below w0.heap.size w0 W
  old : w0.heap.size ≤ g
theorem Snk.below {w0 W W' : World} {g : Nat} {xs : List UInt8} (h : Snk w0 g xs W) (hb : Below W.heap.size W W') : Snk w0 g xs W' := by
  obtain ⟨⟨v, hv⟩, h2, h3⟩ := h
  exact ⟨⟨v, hv.below hb⟩, below_then h2 hb (Nat.le_refl _), h3⟩
theorem Snk.step {w0 W W' : World} {g : Nat} {xs xs' : List UInt8} {v v' : Value} (h : Snk w0 g xs W) (hv : SinkAt g v xs W) (hs : SinkStep g v W xs' v' W') : Snk w0 g xs' W' :=
  ⟨⟨v', hs.1⟩, below_kept h.bel hs.2.2 (fun k e => e.elim (fun e => by rw [e]; exact h.old) fun e => by have := (hv.2.lt k e).1; have := h.old; omega), h.old⟩
theorem lenSum_up2 (L : List OpV) (k : Nat) (h : k ≤ L.length) : lenSum L k ≤ lenSum L L.length := lenSum_up L k h
/-- One call that came in, in whatever world keeps what came in. -/
theorem OpRow.op {w : World} {a : Option Addr} {len cap : Nat} {L : List OpV} (hR : OpRow w a len cap L) (k : Nat) (hk : k < L.length) (hsum : lenSum L L.length ≤ 20000) :
    ∃ ad : Addr, a = some ad ∧ (L[k]).n < 18446744073709551616 ∧ (-9223372036854775808 ≤ (L[k]).m ∧ (L[k]).m ≤ 9223372036854775807) ∧ (L[k]).l.length = (L[k]).len ∧ (L[k]).len ≤ (L[k]).cap ∧ ((L[k]).cap : Int) ≤ 9223372036854775807 ∧ (L[k]).len ≤ 20000 ∧ lenSum L (k + 1) = lenSum L k + (L[k]).len ∧ lenSum L (k + 1) ≤ 20000 ∧
      ∀ W, Below w.heap.size w W → RdC W (L[k]).A (u8v (L[k]).l) ∧ (∀ x, (L[k]).A = some x → (L[k]).l ≠ [] → x.block < w.heap.size) ∧ W.cell? (ad.add (k * 4)) = some (.int .i64 (L[k]).k) ∧ W.cell? ⟨(ad.add (k * 4)).block, (ad.add (k * 4)).off + 1, none⟩ = some (.int .i64 (L[k]).m) ∧ W.cell? ⟨(ad.add (k * 4)).block, (ad.add (k * 4)).off + 2, none⟩ = some (.int .u64 ((L[k]).n : Int)) ∧ W.cell? ⟨(ad.add (k * 4)).block, (ad.add (k * 4)).off + 3, none⟩ = some (.slice (L[k]).A (L[k]).len (L[k]).cap) := by
  obtain ⟨ad, rfl, q0, q1, q2, q3⟩ := hR.cell k hk
  obtain ⟨_, hom, hn, ⟨o1, o2, o3, o4⟩, o5⟩ := hR.2.2.2.1 _ (List.getElem_mem hk)
  have hs := lenSum_succ L k hk
  have hm := lenSum_up L (k + 1) hk
  have carry : ∀ (W : World) (p : Addr) (v : Value), Below w.heap.size w W → w.cell? p = some v → W.cell? p = some v := fun W p v hb h => (hb.cell (World.block_lt_of_cell? w p h)).trans h
  refine ⟨ad, rfl, hn, hom, o1, o2, by unfold maxLen at o3; omega, by omega, hs, by omega, fun W hb => ⟨o4.below hb, fun x hx hne => ?_, carry W _ _ hb q0, carry W _ _ hb q1, carry W _ _ hb q2, carry W _ _ hb q3⟩⟩
  cases hl : (L[k]).l with
  | nil => exact absurd hl hne
  | cons b r =>
    obtain ⟨ad', e, hc⟩ := o4 0 _ (u8v_get _ 0 (by rw [hl]; simp))
    rw [hx] at e
    cases e
    have := World.block_lt_of_cell? w _ hc
    rwa [addr_add_block] at this
theorem encOp_len (o : OpV) (hn : o.n < 18446744073709551616) (hl : o.l.length = o.len) (h2 : o.len ≤ 20000) : (encOp o).length ≤ o.len + 10 := by
  have h1 := numB_ten o.n hn
  have h3 := numB_ten o.l.length (by omega)
  unfold encOp
  split
  · omega
  · split
    · rw [List.length_append]; omega
    · split
      · omega
      · simp
theorem encOp_0 (o : OpV) (h : o.k = 0) : encOp o = numB o.n := if_pos h
theorem encOp_1 (o : OpV) (h : o.k = 1) : encOp o = numB o.l.length ++ o.l := by unfold encOp; rw [if_neg (by omega), if_pos h]
theorem encOp_2 (o : OpV) (h : o.k = 2) : encOp o = o.l := by unfold encOp; rw [if_neg (by omega), if_neg (by omega), if_pos h]
theorem encOp_3 (o : OpV) (h0 : o.k ≠ 0) (h1 : o.k ≠ 1) (h2 : o.k ≠ 2) : encOp o = [] := by unfold encOp; rw [if_neg h0, if_neg h1, if_neg h2]
/-- A call, copied into a block of its own. -/
def Boxed4 (W : World) (b : Nat) (kd om : Int) (on : Nat) (oA : Option Addr) (olen ocap : Nat) : Prop := W.heap[b]? = some (.cells #[.int .i64 kd, .int .i64 om, .int .u64 (on : Int), .slice oA olen ocap] 30 (0, 0))
section
variable {W W' : World} {b : Nat} {kd om : Int} {on : Nat} {oA : Option Addr} {olen ocap : Nat}
theorem Boxed4.new (W : World) (kd om : Int) (on : Nat) (oA : Option Addr) (olen ocap : Nat) : Boxed4 (W.alloc (.cells #[.int .i64 kd, .int .i64 om, .int .u64 (on : Int), .slice oA olen ocap] 30)) W.heap.size kd om on oA olen ocap := heap_alloc_new W _
theorem Boxed4.c0 (h : Boxed4 W b kd om on oA olen ocap) : W.cell? ⟨b, 0, none⟩ = some (.int .i64 kd) := by rw [cell_of_row _ _ _ _ _ _ h]; rfl
theorem Boxed4.c2 (h : Boxed4 W b kd om on oA olen ocap) : W.cell? ⟨b, 2, none⟩ = some (.int .u64 (on : Int)) := by rw [cell_of_row _ _ _ _ _ _ h]; rfl
theorem Boxed4.c3 (h : Boxed4 W b kd om on oA olen ocap) : W.cell? ⟨b, 3, none⟩ = some (.slice oA olen ocap) := by rw [cell_of_row _ _ _ _ _ _ h]; rfl
theorem Boxed4.keptX {ex : Nat → Prop} (h : Boxed4 W b kd om on oA olen ocap) (hk : Kept ex W W') (hb : ¬ ex b) : Boxed4 W' b kd om on oA olen ocap := (hk.block b (lt_get h) hb).trans h
theorem Boxed4.kept {g : Nat} (h : Boxed4 W b kd om on oA olen ocap) (hk : Kept (fun k => k = g) W W') (hb : b ≠ g) : Boxed4 W' b kd om on oA olen ocap := (hk.block b (lt_get h) hb).trans h
end
end Go.Proofs.Ytokfenogiajcgaa
