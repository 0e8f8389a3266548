/- NetKeeps: what lies while frames come and go. -/
import Derived.Test.YtfojlmnlolnilaaNetN
namespace Go.Proofs.Ytfojlmnlolnilaa
open Go.RowKit

/-- A frame whose bytes came in, or are the call's own. -/
def Kp (w0 W : World) (y : Fl) : Prop := y.l.length = y.n ∧ (RdC w0 y.A (u8v y.l) ∨ W.ownsRow w0.heap.size 5 1 y.v y.n (u8v y.l))
theorem Kp.rd {w0 W : World} {y : Fl} (h : Kp w0 W y) (hb : Below w0.heap.size w0 W) : y.rd W := ⟨h.1, h.2.elim (fun h => h.below hb) fun h => rd_of_own h rfl⟩
/-- The two lists of frames. -/
structure KpR (w0 : World) (In Out : List Fl) (iA : Option Addr) (ic : Nat) (oA : Option Addr) (oc : Nat) (W : World) : Prop where
  inR : W.ownsRow w0.heap.size 38 3 (.slice iA In.length ic) In.length (apC In)
  outR : W.ownsRow w0.heap.size 38 3 (.slice oA Out.length oc) Out.length (apC Out)
  ne : ∀ b, (Value.slice iA In.length ic).ownBlock = some b → (Value.slice oA Out.length oc).ownBlock ≠ some b
  inK : ∀ y ∈ In, Kp w0 W y
  outK : ∀ y ∈ Out, Kp w0 W y
  bel : Below w0.heap.size w0 W
section
variable {w0 W W' : World} {In Out : List Fl} {iA oA : Option Addr} {ic oc : Nat}
theorem KpR.below (h : KpR w0 In Out iA ic oA oc W) (hb : Below W.heap.size W W') : KpR w0 In Out iA ic oA oc W' :=
  ⟨own_below h.inR hb, own_below h.outR hb, h.ne, fun y hy => ⟨(h.inK y hy).1, (h.inK y hy).2.imp id fun h => own_below h hb⟩, fun y hy => ⟨(h.outK y hy).1, (h.outK y hy).2.imp id fun h => own_below h hb⟩, below_then h.bel hb (Nat.le_refl _)⟩
theorem KpR.net {B g : Nat} {room : Int} {nv : Value} {s d x : Int} {fl : List Fl} (h : KpR w0 In Out iA ic oA oc W) (hN : NetAt B g room nv s d x fl W) (hg : w0.heap.size ≤ g) (hk : Kept (fun k => k = g) W W') : KpR w0 In Out iA ic oA oc W' :=
  ⟨own_net h.inR hN (by decide) hk, own_net h.outR hN (by decide) hk, h.ne, fun y hy => ⟨(h.inK y hy).1, (h.inK y hy).2.imp id fun h => own_net h hN (by decide) hk⟩, fun y hy => ⟨(h.outK y hy).1, (h.outK y hy).2.imp id fun h => own_net h hN (by decide) hk⟩,
    below_kept h.bel hk fun k e => by omega⟩
theorem KpR.addIn {y : Fl} {vA : Option Addr} {vc : Nat} (h : KpR w0 In Out iA ic oA oc W) (hy : Kp w0 W y) (ho : W'.ownsRow w0.heap.size 38 3 (.slice vA (In.length + 1) vc) (In.length + 1) (apC In ++ y.c3))
    (hg : W.grownBy W' (Value.slice iA In.length ic).ownBlock) (hn : ∀ k, (Value.slice vA (In.length + 1) vc).ownBlock = some k → (Value.slice iA In.length ic).ownBlock = some k ∨ k = W.heap.size) : KpR w0 (In ++ [y]) Out vA vc oA oc W' := by
  have hl : (In ++ [y]).length = In.length + 1 := by simp
  refine ⟨?_, own_of_block h.outR fun k hk => hg.block k (h.outR.lt k hk).2 fun e => h.ne k e.symm hk, fun b hb => ?_, fun z hz => ?_, fun z hz => ⟨(h.outK z hz).1, (h.outK z hz).2.imp id fun h2 => own_grown h2 h.inR (by decide) hg⟩, h.bel.grown hg h.bel.size fun k hk => (h.inR.lt k hk).1⟩
  · rw [hl, apC_append, show apC [y] = y.c3 by simp [apC]]
    exact ho
  · rw [hl] at hb
    rcases hn b hb with hb | rfl
    · exact h.ne b hb
    · intro e
      have := (h.outR.lt _ e).2
      omega
  · rcases List.mem_append.1 hz with hz | hz
    · exact ⟨(h.inK z hz).1, (h.inK z hz).2.imp id fun h2 => own_grown h2 h.inR (by decide) hg⟩
    · obtain rfl := List.mem_singleton.1 hz
      exact ⟨hy.1, hy.2.imp id fun h2 => own_grown h2 h.inR (by decide) hg⟩
theorem KpR.addOut {y : Fl} {vA : Option Addr} {vc : Nat} (h : KpR w0 In Out iA ic oA oc W) (hy : Kp w0 W y) (ho : W'.ownsRow w0.heap.size 38 3 (.slice vA (Out.length + 1) vc) (Out.length + 1) (apC Out ++ y.c3))
    (hg : W.grownBy W' (Value.slice oA Out.length oc).ownBlock) (hn : ∀ k, (Value.slice vA (Out.length + 1) vc).ownBlock = some k → (Value.slice oA Out.length oc).ownBlock = some k ∨ k = W.heap.size) : KpR w0 In (Out ++ [y]) iA ic vA vc W' := by
  have hl : (Out ++ [y]).length = Out.length + 1 := by simp
  refine ⟨own_of_block h.inR fun k hk => hg.block k (h.inR.lt k hk).2 fun e => h.ne k hk e.symm, ?_, fun b hb => ?_, fun z hz => ⟨(h.inK z hz).1, (h.inK z hz).2.imp id fun h2 => own_grown h2 h.outR (by decide) hg⟩, fun z hz => ?_, h.bel.grown hg h.bel.size fun k hk => (h.outR.lt k hk).1⟩
  · rw [hl, apC_append, show apC [y] = y.c3 by simp [apC]]
    exact ho
  · rw [hl]
    intro e
    rcases hn b e with e | rfl
    · exact h.ne b hb e
    · have := (h.inR.lt _ hb).2
      omega
  · rcases List.mem_append.1 hz with hz | hz
    · exact ⟨(h.outK z hz).1, (h.outK z hz).2.imp id fun h2 => own_grown h2 h.outR (by decide) hg⟩
    · obtain rfl := List.mem_singleton.1 hz
      exact ⟨hy.1, hy.2.imp id fun h2 => own_grown h2 h.outR (by decide) hg⟩
end
theorem count_erase (l : List Fl) (i : Nat) (hi : i < l.length) (f : Int × Int × List UInt8) : (l.map Fl.key).count f = ((l.eraseIdx i).map Fl.key).count f + ([(l[i]).key]).count f := by
  have h1 : l = l.take i ++ [l[i]] ++ l.drop (i + 1) := by
    rw [List.append_assoc, List.singleton_append, ← List.drop_eq_getElem_cons hi, List.take_append_drop]
  have h2 : l.eraseIdx i = l.take i ++ l.drop (i + 1) := List.eraseIdx_eq_take_drop_succ ..
  rw [h2]
  conv => lhs; rw [h1]
  simp only [List.map_append, List.count_append, List.map_cons, List.map_nil]
  omega
/-- The books. -/
structure KpN (room : Int) (k : Nat) (In Out fl : List Fl) (s db d x : Nat) : Prop where
  cnt : ∀ f, (In.map Fl.key).count f = (Out.map Fl.key).count f + (fl.map Fl.key).count f
  num : s + db = d + x + fl.length
  len : In.length = Out.length + fl.length
  le : (fl.length : Int) ≤ room
  hs : s ≤ k
  hdb : db ≤ k
  hd : d ≤ k
  hx : x ≤ k
  hIn : In.length ≤ k
  big : ∀ y ∈ fl, y.l.length ≤ 300
section
variable {room : Int} {k : Nat} {In Out fl : List Fl} {s db d x : Nat}
theorem KpN.skip (h : KpN room k In Out fl s db d x) : KpN room (k + 1) In Out fl s db d x :=
  ⟨h.cnt, h.num, h.len, h.le, Nat.le_succ_of_le h.hs, Nat.le_succ_of_le h.hdb, Nat.le_succ_of_le h.hd, Nat.le_succ_of_le h.hx, Nat.le_succ_of_le h.hIn, h.big⟩
theorem KpN.sent (h : KpN room k In Out fl s db d x) (y z : Fl) (hyz : y.key = z.key) (hl : (fl.length : Int) < room) (hz : z.l.length ≤ 300) : KpN room (k + 1) (In ++ [y]) Out (fl ++ [z]) (s + 1) db d x := by
  refine ⟨fun f => ?_, ?_, ?_, ?_, Nat.succ_le_succ h.hs, Nat.le_succ_of_le h.hdb, Nat.le_succ_of_le h.hd, Nat.le_succ_of_le h.hx, ?_, fun q hq => ?_⟩
  · rw [List.map_append, List.map_append, List.count_append, List.count_append, h.cnt f, List.map_cons, List.map_cons, hyz]
    simp only [List.map_nil]
    omega
  · have := h.num; simp; omega
  · have := h.len; simp; omega
  · simp; omega
  · have := h.hIn; simp; omega
  · rcases List.mem_append.1 hq with hq | hq
    · exact h.big q hq
    · obtain rfl := List.mem_singleton.1 hq; exact hz
theorem KpN.full (h : KpN room k In Out fl s db d x) : KpN room (k + 1) In Out fl (s + 1) db d (x + 1) :=
  ⟨h.cnt, by have := h.num; omega, h.len, h.le, Nat.succ_le_succ h.hs, Nat.le_succ_of_le h.hdb, Nat.le_succ_of_le h.hd, Nat.succ_le_succ h.hx, Nat.le_succ_of_le h.hIn, h.big⟩
theorem KpN.out (h : KpN room k In Out fl s db d x) (i : Nat) (hi : i < fl.length) (y : Fl) (hy : y.key = (fl[i]).key) (d' x' : Nat) (hdx : d' + x' = d + x + 1) (hd' : d' ≤ d + 1) (hx' : x' ≤ x + 1) : KpN room (k + 1) In (Out ++ [y]) (fl.eraseIdx i) s db d' x' := by
  have hel := List.length_eraseIdx_of_lt hi
  refine ⟨fun f => ?_, ?_, ?_, ?_, Nat.le_succ_of_le h.hs, Nat.le_succ_of_le h.hdb, by have := h.hd; omega, by have := h.hx; omega, Nat.le_succ_of_le h.hIn, fun q hq => h.big q (List.mem_of_mem_eraseIdx hq)⟩
  · rw [h.cnt f, count_erase fl i hi f, List.map_append, List.count_append, List.map_cons, hy]
    simp only [List.map_nil]
    omega
  · have := h.num; omega
  · have := h.len; simp; omega
  · have := h.le; omega
theorem KpN.dbl (h : KpN room k In Out fl s db d x) (i : Nat) (hi : i < fl.length) (y z : Fl) (hy : y.key = (fl[i]).key) (hz : z.key = (fl[i]).key) (hl : (fl.length : Int) < room) : KpN room (k + 1) (In ++ [y]) Out (fl ++ [z]) s (db + 1) d x := by
  have hz3 : z.l.length ≤ 300 := by
    have := h.big _ (List.getElem_mem hi)
    have e : z.l = (fl[i]).l := congrArg (fun p => p.2.2) hz
    rw [e]; exact this
  refine ⟨fun f => ?_, ?_, ?_, ?_, Nat.le_succ_of_le h.hs, Nat.succ_le_succ h.hdb, Nat.le_succ_of_le h.hd, Nat.le_succ_of_le h.hx, ?_, fun q hq => ?_⟩
  · rw [List.map_append, List.map_append, List.count_append, List.count_append, h.cnt f, List.map_cons, List.map_cons, hy, hz]
    simp only [List.map_nil]
    omega
  · have := h.num; simp; omega
  · have := h.len; simp; omega
  · simp; omega
  · have := h.hIn; simp; omega
  · rcases List.mem_append.1 hq with hq | hq
    · exact h.big q hq
    · obtain rfl := List.mem_singleton.1 hq; exact hz3
theorem KpN.delay (h : KpN room k In Out fl s db d x) (i : Nat) (hi : i < fl.length) : KpN room (k + 1) In Out (fl.eraseIdx i ++ [fl[i]]) s db d x := by
  have hel := List.length_eraseIdx_of_lt hi
  have hl : (fl.eraseIdx i ++ [fl[i]]).length = fl.length := by rw [List.length_append, hel]; simp; omega
  refine ⟨fun f => ?_, by rw [hl]; exact h.num, by rw [hl]; exact h.len, by rw [hl]; exact h.le, Nat.le_succ_of_le h.hs, Nat.le_succ_of_le h.hdb, Nat.le_succ_of_le h.hd, Nat.le_succ_of_le h.hx, Nat.le_succ_of_le h.hIn, fun q hq => ?_⟩
  · rw [h.cnt f, count_erase fl i hi f, List.map_append, List.count_append, List.map_cons]
    simp only [List.map_nil]
  · rcases List.mem_append.1 hq with hq | hq
    · exact h.big q (List.mem_of_mem_eraseIdx hq)
    · obtain rfl := List.mem_singleton.1 hq; exact h.big _ (List.getElem_mem hi)
end
end Go.Proofs.Ytfojlmnlolnilaa
