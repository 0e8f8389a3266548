/- leb: a Source's readers. -/
import Derived.Test.YtfifbjlmbdgmjaaLebX
import Derived.Defers
namespace Go.Proofs.Ytfifbjlmbdgmjaa
open Go.RowKit Go.Shelf
attribute [local go_sem] Oper.semAt_some

/-- What 'Raw' answers: the error, the bytes, what is left. -/
def rawR (l : List UInt8) (k : Int) : Int × List UInt8 × List UInt8 := if k < 0 then (2, [], l) else if (l.length : Int) < k then (10, [], l) else (0, l.take k.toNat, l.drop k.toNat)
/-- What 'Bytes' answers. -/
def bytesR (l : List UInt8) (most : Int) : Int × List UInt8 × List UInt8 :=
  if (readN l (max 0 most).toNat).2.1 ≠ 0 then (((readN l (max 0 most).toNat).2.1 : Int), [], l)
  else if (rawR (l.drop (readN l (max 0 most).toNat).2.2) ((readN l (max 0 most).toNat).1 : Int)).1 ≠ 0 then ((rawR (l.drop (readN l (max 0 most).toNat).2.2) ((readN l (max 0 most).toNat).1 : Int)).1, [], l)
  else rawR (l.drop (readN l (max 0 most).toNat).2.2) ((readN l (max 0 most).toNat).1 : Int)
/-- What a reading leaves: the Source, and new bytes ov. -/
def ReadStep (t : TypeId) (g : Nat) (v : Value) (w : World) (ov : Value) (x rest : List UInt8) (w' : World) : Prop :=
  (∃ v', v'.ownBlock = v.ownBlock ∧ SrcStep t g w v' rest w') ∧ w'.ownsRow w.heap.size 5 1 ov x.length (u8v x)
theorem Src.lt {t : TypeId} {g : Nat} {v : Value} {l : List UInt8} {W : World} (h : Src t g v l W) : g < W.heap.size := lt_get h.1
theorem Src.rd {t : TypeId} {g : Nat} {A : Option Addr} {n c : Nat} {l : List UInt8} {W : World} (h : Src t g (.slice A n c) l W) : RdC W A (u8v l) ∧ l.length = n ∧ n ≤ c ∧ c ≤ maxLen ∧ ∀ ad, A = some ad → ad.block ≠ g := by
  obtain ⟨_, A', c', e, h1, h2, h3, h4⟩ := h
  injection e with e1 e2 e3
  subst e1 e3
  exact ⟨h3, e2.symm, by omega, h2, h4⟩
set_option maxHeartbeats 1000000 in
theorem from_any (A : Option Addr) (n c : Nat) (l : List UInt8) (hl : l.length = n) (hn : n ≤ 100000000) (w : World) (hr : RdC w A (u8v l)) :
    Calls Try.prog 28 #[.slice A n c] w fun e w' => ∃ g v, e = .returned (.pointer (some ⟨g, 0, none⟩)) ∧ w.heap.size ≤ g ∧ Src 67 g v l w' ∧ Below w.heap.size w w' ∧ ∀ b, v.ownBlock = some b → w.heap.size ≤ b ∧ b < g := by
  subst hl
  have hcl := clone_any A l.length c l rfl hn w hr (fun h => by
    subst h
    cases l with
    | nil => rfl
    | cons b l => obtain ⟨_, e, _⟩ := hr 0 _ (u8v_get (b :: l) 0 (by simp)); cases e)
  go_enter Try.func28, Try.ntmps28
  go_wp2_with (go_at_call 40; refine hcl.mono ?_; rintro e w1 ⟨v, rfl, ho, hb⟩; obtain ⟨A1, c1, rfl, _⟩ := RdC.of_own ho)
  go_ret
  obtain ⟨A2, c2, e, h1, h2, h3, _⟩ := RdC.of_own ho
  injection e with e1 e2 e3
  subst e1 e3
  refine ⟨_, _, rfl, hb.size, ⟨Boxed.new w1 _ _, _, _, rfl, h1, h2, h3.alloc _, fun ad e => ?_⟩, hb.alloc hb.size _, fun b hb' => ho.lt b hb'⟩
  have := (ho.lt ad.block (by rw [e]; rfl)).2
  omega
set_option maxHeartbeats 1000000 in
theorem left_any (g : Nat) (v : Value) (l : List UInt8) (w : World) (hS : Src 67 g v l w) : Calls Try.prog 33 #[.pointer (some ⟨g, 0, none⟩)] w fun e w' => e = .returned (.int .i64 (l.length : Int)) ∧ w' = w := by
  obtain ⟨h1, A, c, rfl, h2, h3, _⟩ := hS
  have c1 := Boxed.cell h1
  go_enter Try.func33, Try.ntmps33
  go_wp2
  go_ret
  exact ⟨rfl, rfl⟩
def endE (l : List UInt8) : Int := if 0 < l.length then 13 else 0
/-- What lies while bytes are read. -/
structure BytI (g : Nat) (A : Option Addr) (n c : Nat) (w : World) (e : Int) (W : World) : Prop where
  b0 : Boxed W w.heap.size 36 (.int .i64 e)
  b1 : Boxed W (w.heap.size + 1) 51 (.pointer (some ⟨g, 0, none⟩))
  b2 : Boxed W (w.heap.size + 2) 79 (.pointer (some ⟨w.heap.size, 0, none⟩))
  b3 : Boxed W (w.heap.size + 3) 33 (.slice A n c)
  kp : Kept (fun k => k = g) w W
theorem BytI.kept {g : Nat} {A : Option Addr} {n c : Nat} {w : World} {e : Int} {W W' : World} (h : BytI g A n c w e W) (hg : g < w.heap.size) (hk : Kept (fun k => k = g) W W') : BytI g A n c w e W' :=
  ⟨(hk.block _ h.b0.lt (by omega)).trans h.b0, (hk.block _ h.b1.lt (by omega)).trans h.b1, (hk.block _ h.b2.lt (by omega)).trans h.b2, (hk.block _ h.b3.lt (by omega)).trans h.b3, h.kp.trans hk⟩
theorem BytI.err {g : Nat} {A : Option Addr} {n c : Nat} {w : World} {e : Int} {W : World} (h : BytI g A n c w e W) (e' : Int) : BytI g A n c w e' (W.setCell ⟨w.heap.size, 0, none⟩ (.int .i64 e')) :=
  ⟨h.b0.set _, h.b1.other (by omega) _, h.b2.other (by omega) _, h.b3.other (by omega) _, h.kp.setNew (Nat.le_refl _) _⟩
theorem BytI.drew {g : Nat} {A : Option Addr} {n c : Nat} {w : World} {e : Int} {W : World} (h : BytI g A n c w e W) : BytI g A n c w e W.drew := ⟨h.b0, h.b1, h.b2, h.b3, h.kp.drew⟩
end Go.Proofs.Ytfifbjlmbdgmjaa
