/- leb: the memory of LebReads: two Sources. -/
import Derived.Test.YtfifbjlmbdgmjaaLebZ
import Derived.Test.YtfifbjlmbdgmjaaLebR
import Derived.Test.YtfifbjlmbdgmjaaLebO
namespace Go.Proofs.Ytfifbjlmbdgmjaa
open Go.RowKit

/-- Two Sources, the program's in gs with the bytes ls, the reference's in gr with lr. -/
structure Two (w0 : World) (N gs gr : Nat) (bs br : Option Nat) (ls lr : List UInt8) (W : World) : Prop where
  s : ∃ v, v.ownBlock = bs ∧ Src 67 gs v ls W
  r : ∃ v, v.ownBlock = br ∧ Src 55 gr v lr W
  bel : Below w0.heap.size w0 W
  old : w0.heap.size ≤ gs ∧ w0.heap.size ≤ gr ∧ gs < N ∧ gr < N ∧ N ≤ W.heap.size ∧ gs ≠ gr
  hs : ∀ b, bs = some b → b ≠ gs ∧ b ≠ gr ∧ b < N
  hr : ∀ b, br = some b → b ≠ gs ∧ b ≠ gr ∧ b < N
section
variable {w0 W W' : World} {N gs gr : Nat} {bs br : Option Nat} {ls lr : List UInt8}
theorem below_kept {ex : Nat → Prop} (h : Below w0.heap.size w0 W) (hk : Kept ex W W') (hx : ∀ k, ex k → w0.heap.size ≤ k) : Below w0.heap.size w0 W' :=
  ⟨hk.os.trans h.os, hk.tape.trans h.tape, hk.output.trans h.output, Nat.le_trans h.size hk.size, fun k hkk => (hk.block k (by have := h.size; omega) fun e => by have := hx k e; omega).trans (h.block k hkk)⟩
theorem own_of {v : Value} {A : Addr} {n c : Nat} (h : v = .slice (some A) n c) : v.ownBlock = some A.block := by rw [h]; rfl
theorem Two.keptG {ex : Nat → Prop} (h : Two w0 N gs gr bs br ls lr W) (hk : Kept ex W W') (x1 : ¬ ex gs) (x2 : ¬ ex gr) (x3 : ∀ b, bs = some b → ¬ ex b) (x4 : ∀ b, br = some b → ¬ ex b) (hx : ∀ k, ex k → w0.heap.size ≤ k) : Two w0 N gs gr bs br ls lr W' := by
  obtain ⟨⟨v, ev, hv⟩, ⟨u, eu, hu⟩, hb, ⟨o1, o2, o3, o4, o5, o6⟩, hs, hr⟩ := h
  exact ⟨⟨v, ev, hv.kept hk x1 fun A n c e => x3 A.block (by rw [← ev]; exact own_of e)⟩, ⟨u, eu, hu.kept hk x2 fun A n c e => x4 A.block (by rw [← eu]; exact own_of e)⟩, below_kept hb hk hx, ⟨o1, o2, o3, o4, Nat.le_trans o5 hk.size, o6⟩, hs, hr⟩
theorem Two.kept {ex : Nat → Prop} (h : Two w0 N gs gr bs br ls lr W) (hk : Kept ex W W') (hx : ∀ k, ex k → N ≤ k) : Two w0 N gs gr bs br ls lr W' :=
  h.keptG hk (fun e => by have := hx _ e; have := h.old; omega) (fun e => by have := hx _ e; have := h.old; omega) (fun b hb e => by have := hx _ e; have := (h.hs b hb).2.2; omega) (fun b hb e => by have := hx _ e; have := (h.hr b hb).2.2; omega) (fun k e => by have := hx _ e; have := h.old; omega)
theorem Two.below (h : Two w0 N gs gr bs br ls lr W) (hb : Below W.heap.size W W') : Two w0 N gs gr bs br ls lr W' :=
  h.kept (ex := fun _ => False) (Kept.of_below hb) (fun _ e => e.elim)
theorem Two.stepS (h : Two w0 N gs gr bs br ls lr W) {v' : Value} {l' : List UInt8} (hv : v'.ownBlock = bs) (hs : SrcStep 67 gs W v' l' W') : Two w0 N gs gr bs br l' lr W' := by
  obtain ⟨_, ⟨u, eu, hu⟩, hb, ⟨o1, o2, o3, o4, o5, o6⟩, h1, h2⟩ := h
  exact ⟨⟨v', hv, hs.1⟩, ⟨u, eu, hu.kept hs.2 (fun e => o6 e.symm) fun A n c e hA => (h2 A.block (by rw [← eu]; exact own_of e)).1 hA⟩, below_kept hb hs.2 (fun k e => by omega), ⟨o1, o2, o3, o4, Nat.le_trans o5 hs.2.size, o6⟩, h1, h2⟩
theorem Two.stepR (h : Two w0 N gs gr bs br ls lr W) {v' : Value} {l' : List UInt8} (hv : v'.ownBlock = br) (hs : SrcStep 55 gr W v' l' W') : Two w0 N gs gr bs br ls l' W' := by
  obtain ⟨⟨u, eu, hu⟩, _, hb, ⟨o1, o2, o3, o4, o5, o6⟩, h1, h2⟩ := h
  exact ⟨⟨u, eu, hu.kept hs.2 (fun e => o6 e) fun A n c e hA => (h1 A.block (by rw [← eu]; exact own_of e)).2.1 hA⟩, ⟨v', hv, hs.1⟩, below_kept hb hs.2 (fun k e => by omega), ⟨o1, o2, o3, o4, Nat.le_trans o5 hs.2.size, o6⟩, h1, h2⟩
end
theorem u8_inc (b : UInt8) : ((b.toNat : Int) + 1) % 256 = ((b + 1).toNat : Int) := by
  rw [UInt8.toNat_add]
  have := b.toNat_lt
  simp
theorem lenSum_up (L : List OpV) (k : Nat) (h : k ≤ L.length) : lenSum L k ≤ lenSum L L.length := by
  obtain ⟨d, hd⟩ : ∃ d, L.length = k + d := ⟨L.length - k, by omega⟩
  rw [hd]
  clear hd h
  induction d with
  | zero => exact Nat.le_refl _
  | succ d ih =>
    refine Nat.le_trans ih ?_
    by_cases hh : k + d < L.length
    · have := lenSum_succ L (k + d) hh
      rw [Nat.add_assoc] at this
      omega
    · unfold lenSum
      rw [List.take_of_length_le (by omega), List.take_of_length_le (by omega)]
      exact Nat.le_refl _
/-- One call that came in, in whatever world keeps what came in. -/
theorem OpRow.get {w : World} {a : Option Addr} {len cap : Nat} {L : List OpV} (hR : OpRow w a len cap L) (k : Nat) (hk : k < L.length) (hsum : lenSum L L.length ≤ 20000) :
    ∃ (ad : Addr) (kd om : Int) (on : Nat) (oA : Option Addr) (olen ocap : Nat) (ol : List UInt8), a = some ad ∧ on < 18446744073709551616 ∧ (-9223372036854775808 ≤ om ∧ om ≤ 9223372036854775807) ∧ ol.length = olen ∧ olen ≤ ocap ∧ (ocap : Int) ≤ 9223372036854775807 ∧ olen ≤ 20000 ∧ lenSum L (k + 1) = lenSum L k + olen ∧ lenSum L (k + 1) ≤ 20000 ∧
      ∀ W, Below w.heap.size w W → RdC W oA (u8v ol) ∧ (∀ x, oA = some x → x.block < w.heap.size ∨ ol = []) ∧ W.cell? (ad.add (k * 4)) = some (.int .i64 kd) ∧ W.cell? ⟨(ad.add (k * 4)).block, (ad.add (k * 4)).off + 1, none⟩ = some (.int .i64 om) ∧ W.cell? ⟨(ad.add (k * 4)).block, (ad.add (k * 4)).off + 2, none⟩ = some (.int .u64 (on : Int)) ∧ W.cell? ⟨(ad.add (k * 4)).block, (ad.add (k * 4)).off + 3, none⟩ = some (.slice oA olen ocap) := by
  obtain ⟨ad, rfl, q0, q1, q2, q3⟩ := hR.cell k hk
  obtain ⟨_, hom, hn, ⟨o1, o2, o3, o4⟩, o5⟩ := hR.2.2.2.1 _ (List.getElem_mem hk)
  have hs := lenSum_succ L k hk
  have hm := lenSum_up L (k + 1) hk
  have carry : ∀ (W : World) (p : Addr) (v : Value), Below w.heap.size w W → w.cell? p = some v → W.cell? p = some v := fun W p v hb h => (hb.cell (World.block_lt_of_cell? w p h)).trans h
  refine ⟨ad, _, _, _, _, _, _, _, rfl, hn, hom, o1, o2, by unfold maxLen at o3; omega, by omega, hs, by omega, fun W hb => ⟨o4.below hb, fun x hx => ?_, carry W _ _ hb q0, carry W _ _ hb q1, carry W _ _ hb q2, carry W _ _ hb q3⟩⟩
  cases hl : (L[k]).l with
  | nil => exact .inr rfl
  | cons b r =>
    refine .inl ?_
    obtain ⟨ad', e, hc⟩ := o4 0 _ (u8v_get _ 0 (by rw [hl]; simp))
    rw [hx] at e
    cases e
    have := World.block_lt_of_cell? w _ hc
    rwa [addr_add_block] at this
theorem own_inc {W : World} {B n c : Nat} {A : Option Addr} {l : List UInt8} (h : W.ownsRow B 5 1 (.slice A n c) n (u8v l)) (hl : l.length = n) : (A = none ∧ n = 0) ∨ ∃ go, A = some ⟨go, 0, none⟩ ∧ IncAt go n W := by
  subst hl
  rcases h.2 with ⟨e, h0⟩ | ⟨g', cap', cur, e, _⟩
  · injection e with e1; exact .inl ⟨e1, h0⟩
  · injection e with e1
    subst e1
    exact .inr ⟨g', rfl, IncAt.of_own h rfl⟩
theorem rawR_len (l : List UInt8) (k : Int) : (rawR l k).2.1.length ≤ l.length ∧ (rawR l k).2.2.length ≤ l.length := by
  unfold rawR
  split
  · exact ⟨by simp, Nat.le_refl _⟩
  · split
    · exact ⟨by simp, Nat.le_refl _⟩
    · exact ⟨by simp only [List.length_take]; omega, by simp only [List.length_drop]; omega⟩
theorem bytesR_len (l : List UInt8) (k : Int) : (bytesR l k).2.1.length ≤ l.length ∧ (bytesR l k).2.2.length ≤ l.length := by
  unfold bytesR
  split
  · exact ⟨by simp, Nat.le_refl _⟩
  · split
    · exact ⟨by simp, Nat.le_refl _⟩
    · have := rawR_len (l.drop (readN l (max 0 k).toNat).2.2) ((readN l (max 0 k).toNat).1 : Int)
      rw [List.length_drop] at this
      omega
end Go.Proofs.Ytfifbjlmbdgmjaa
