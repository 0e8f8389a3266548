/- leb: a Source as it lies; what gives back; what hands out its bytes. -/
import Derived.Test.YtfifbjlmbdgmjaaLebS
import Derived.Test.YtfifbjlmbdgmjaaLebU
import Derived.Test.YtfifbjlmbdgmjaaLebR
import Derived.Test.YtfifbjlmbdgmjaaRangeS
import Derived.DefersIn
namespace Go.Proofs.Ytfifbjlmbdgmjaa
open Go.RowKit Go.Shelf
attribute [local go_sem] Oper.semAt_some

/-- A Source of type t with the bytes l, in block g. -/
def Src (t : TypeId) (g : Nat) (v : Value) (l : List UInt8) (W : World) : Prop :=
  W.heap[g]? = some (.cells #[v] t (0, 0)) ∧ ∃ A c, v = .slice A l.length c ∧ l.length ≤ c ∧ c ≤ maxLen ∧ RdC W A (u8v l) ∧ ∀ ad, A = some ad → ad.block ≠ g
def SrcStep (t : TypeId) (g : Nat) (W : World) (v' : Value) (l' : List UInt8) (W' : World) : Prop := Src t g v' l' W' ∧ Kept (fun k => k = g) W W'
theorem RdC.kept {w w' : World} {ex : Nat → Prop} {A : Option Addr} {cs : List Value} (h : RdC w A cs) (hk : Kept ex w w') (hx : ∀ ad, A = some ad → ¬ ex ad.block) : RdC w' A cs := fun j u hj => by
  obtain ⟨ad, e, hc⟩ := h j u hj
  have hlt := World.block_lt_of_cell? w _ hc
  rw [addr_add_block] at hlt
  exact ⟨ad, e, (World.cell?_of_block (w := w) (w' := w') (by rw [addr_add_block]; exact hk.block _ hlt (hx ad e))).trans hc⟩
theorem Src.kept {t : TypeId} {g : Nat} {v : Value} {l : List UInt8} {w w' : World} {ex : Nat → Prop} (h : Src t g v l w) (hk : Kept ex w w') (hg : ¬ ex g) (hx : ∀ A n c, v = .slice (some A) n c → ¬ ex A.block) : Src t g v l w' := by
  obtain ⟨h1, A, c, rfl, h2, h3, h4, h5⟩ := h
  exact ⟨(hk.block g (lt_get h1) hg).trans h1, A, c, rfl, h2, h3, h4.kept hk (fun ad e => hx ad _ _ (by rw [e])), h5⟩
theorem Src.below {t : TypeId} {g : Nat} {v : Value} {l : List UInt8} {w w' : World} (h : Src t g v l w) (hb : Below w.heap.size w w') : Src t g v l w' :=
  h.kept (ex := fun _ => False) (Kept.of_below hb) (fun h => h) (fun _ _ _ _ h => h)
theorem Kept.trans {ex : Nat → Prop} {a b c : World} (h : Kept ex a b) (k : Kept ex b c) : Kept ex a c :=
  ⟨k.os.trans h.os, k.tape.trans h.tape, k.output.trans h.output, Nat.le_trans h.size k.size, fun j hj he => (k.block j (Nat.lt_of_lt_of_le hj h.size) he).trans (h.block j hj he)⟩
theorem Kept.mono {ex ex' : Nat → Prop} {a b : World} (h : Kept ex a b) (hx : ∀ k, ex k → ex' k) : Kept ex' a b := ⟨h.os, h.tape, h.output, h.size, fun k hk he => h.block k hk fun e => he (hx k e)⟩

theorem subA_ne {g c k z : Nat} {A : Option Addr} (hA : ∀ ad, A = some ad → ad.block ≠ g) : ∀ ad, subA A c k z = some ad → ad.block ≠ g := fun ad e => by
  unfold subA at e
  split at e
  · exact hA ad e
  · cases A with
    | none => cases e
    | some a0 =>
      simp only [Option.map_some, Option.some.injEq] at e
      subst e
      rw [addr_add_block]
      exact hA a0 rfl
theorem back_any (g r : Nat) (A : Option Addr) (n c : Nat) (w : World) (hg : Boxed w g 67 (.slice A n c)) :
    Calls Try.prog 46 #[.pointer (some ⟨g, 0, none⟩), .pointer (some ⟨r, 0, none⟩)] w fun e w' =>
      e = .returned (.func (.func 50) #[] #[.pointer (some ⟨w.heap.size + 1, 0, none⟩), .pointer (some ⟨w.heap.size + 2, 0, none⟩), .pointer (some ⟨w.heap.size, 0, none⟩)]) ∧
      w' = ((w.alloc (.cells #[.pointer (some ⟨g, 0, none⟩)] 51)).alloc (.cells #[.pointer (some ⟨r, 0, none⟩)] 79)).alloc (.cells #[.slice A n c] 33) := by
  have hgl := hg.lt
  have c1 := hg.cell
  go_enter Try.func46, Try.ntmps46
  go_wp2
  go_ret
  exact ⟨rfl, rfl⟩

theorem back1_no (r b1 b2 b3 : Nat) (u : FrameMode) (n : Nat) (w : World) (h1 : Boxed w b1 79 (.pointer (some ⟨r, 0, none⟩))) (hr : Boxed w r 36 (.int .i64 0)) :
    CallsDIn Fence.wide n Try.prog 50 #[.pointer (some ⟨b1, 0, none⟩), .pointer (some ⟨b2, 0, none⟩), .pointer (some ⟨b3, 0, none⟩)] u w fun e u' w' => u' = u ∧ e = .returned (.tuple #[]) ∧ w' = w := by
  have c1 := h1.cell
  have c2 := hr.cell
  refine callsDIn_of_wp Try.func50 rfl trivial ?_ rfl
  simp only [Try.ntmps50, List.size_toArray, List.length_cons, List.length_nil, Nat.reduceAdd, Nat.reduceSub, Array.replicate_succ, Array.replicate_zero, List.push_toArray, List.append_toArray, List.nil_append, List.cons_append]
  gi_wp2
  go_end0
  exact ⟨rfl, rfl⟩
theorem back1_yes (g r b1 b2 b3 : Nat) (x : Int) (A : Option Addr) (n c : Nat) (v1 : Value) (hx : x ≠ 0) (u : FrameMode) (m : Nat) (w : World) (h1 : Boxed w b1 79 (.pointer (some ⟨r, 0, none⟩))) (hr : Boxed w r 36 (.int .i64 x)) (h2 : Boxed w b2 33 (.slice A n c)) (h3 : Boxed w b3 51 (.pointer (some ⟨g, 0, none⟩))) (h4 : Boxed w g 67 v1) :
    CallsDIn Fence.wide m Try.prog 50 #[.pointer (some ⟨b1, 0, none⟩), .pointer (some ⟨b2, 0, none⟩), .pointer (some ⟨b3, 0, none⟩)] u w fun e u' w' => u' = u ∧ e = .returned (.tuple #[]) ∧ w' = w.setCell ⟨g, 0, none⟩ (.slice A n c) := by
  have c1 := h1.cell
  have c2 := hr.cell
  have c3 := h2.cell
  have c4 := h3.cell
  have c5 := h4.cell
  have f5 := h4.frozen
  have hx1 : (x == 0) = false := by simpa using hx
  have hx2 : (x != 0) = true := by simp [bne, hx1]
  clear hx
  refine callsDIn_of_wp Try.func50 rfl trivial ?_ rfl
  simp only [Try.ntmps50, List.size_toArray, List.length_cons, List.length_nil, Nat.reduceAdd, Nat.reduceSub, Array.replicate_succ, Array.replicate_zero, List.push_toArray, List.append_toArray, List.nil_append, List.cons_append]
  gi_wp2
  go_end0
  exact ⟨rfl, rfl⟩
theorem src_next_any (g : Nat) (w : World) : Calls Try.prog 47 #[.pointer (some ⟨g, 0, none⟩)] w fun e w' => e = .returned (.func (.func 51) #[] #[.pointer (some ⟨w.heap.size, 0, none⟩)]) ∧ w' = w.alloc (.cells #[.pointer (some ⟨g, 0, none⟩)] 51) := by
  go_enter Try.func47, Try.ntmps47
  go_wp2
  go_ret
  exact ⟨rfl, rfl⟩
/-- What a Source's iterator has in hand behind k bytes of l. -/
theorem own_slice (A : Option Addr) (n c : Nat) : (Value.slice A n c).ownBlock = A.map (·.block) := by cases A <;> rfl
theorem subA_map (A : Option Addr) (c k z : Nat) : (subA A c k z).map (·.block) = A.map (·.block) := by
  unfold subA
  split
  · rfl
  · cases A with
    | none => rfl
    | some a => simp [addr_add_block]
def NextSt (b g : Nat) (ob : Option Nat) (l : List UInt8) (k : Nat) (W : World) : Prop := Boxed W b 51 (.pointer (some ⟨g, 0, none⟩)) ∧ b ≠ g ∧ ∃ v, v.ownBlock = ob ∧ Src 67 g v (l.drop k) W
/-- What it changes by itself. -/
def NextCh (g : Nat) (W W' : World) : Prop := ∃ v, W' = (W.setCell ⟨g, 0, none⟩ v).drew
set_option maxRecDepth 100000 in
set_option maxHeartbeats 2000000 in
theorem next_hands (F : Fence) (n : Nat) (hF : F.fn 51) (hro : F.round = none) (hn : 1 ≤ n) (b g : Nat) (ob : Option Nat) (l : List UInt8) (W : World) (hS : NextSt b g ob l 0 W) :
    HandsSome F n Try.prog 51 #[.pointer (some ⟨b, 0, none⟩)] enc8 l (NextSt b g ob l) (NextCh g) W := by
  intro L J Jx hJ hY h0
  refine callsIn_of_wp Try.func51 rfl hF ?_ hro
  simp only [Try.ntmps51, List.size_toArray, List.length_cons, List.length_nil, Nat.reduceAdd, Nat.reduceSub, Array.replicate_succ, Array.replicate_zero, List.push_toArray, List.append_toArray, List.nil_append, List.cons_append]
  gi_wp2
  gi_loopw [3] (fun _ wr => ∃ (pre rest : List UInt8), l = pre ++ rest ∧ J pre wr ∧ NextSt b g ob l pre.length wr) (fun _ wr => match wr.cell? ⟨g, 0, none⟩ with | some (.slice _ n _) => n | _ => 0)
  case atStart => exact ⟨[], l, rfl, h0, hS⟩
  case round =>
    obtain ⟨pre, rest, hl, hJs, hbx, hbg, v, hob, hsg, A, c, rfl, hlc, hcm, hrd, hne⟩ := hrel
    rw [own_slice] at hob
    have HOB := Lib.hid hob
    clear hob
    have hd : l.drop pre.length = rest := by rw [hl, List.drop_left]
    rw [hd] at hsg hlc hrd
    have HL : Hid (l = pre ++ rest) := Lib.hid hl
    have HD := Lib.hid hd
    clear hl hd
    have c1 := hbx.cell
    have c2 := Boxed.cell hsg
    have f2 := Boxed.frozen hsg
    have hmx : Try.prog.follows .mixedOrders = true := by kernel_rfl
    cases rest with
    | nil =>
      rw [List.length_nil] at c2
      have hfin : J l wr ∧ NextSt b g ob l l.length wr := by
        have h1 := HL.out
        rw [List.append_nil] at h1
        rw [h1]
        have h2 := HD.out
        rw [h1] at h2
        exact ⟨hJs, hbx, hbg, _, (own_slice A _ _).trans HOB.out, by rw [h2]; exact ⟨hsg, A, c, rfl, hlc, hcm, hrd, hne⟩⟩
      gi_wp2
      go_end0
      exact ⟨⟨_, rfl⟩, .inl hfin⟩
    | cons x r =>
      obtain ⟨ad, rfl, hx⟩ := hrd 0 _ (u8v_get (x :: r) 0 (by simp))
      rw [addr_add_zero] at hx
      simp only [List.getElem_cons_zero] at hx
      rw [List.length_cons] at c2 hlc
      have hsub : ∀ W : World, (Instr.slice 33 (.slice (some ad) (r.length + 1) c) (some (.int .i64 1)) none none).run Try.prog W = .ok (.slice (subA (some ad) c 1 1) r.length (c - 1)) W := fun W => by
        have := run_sub_l (P := Try.prog) W 33 (some ad) (r.length + 1) c 1 Try.underlying33 (Try.sizeOf5 W) 1 1 rfl (by omega)
        rwa [Nat.add_sub_cancel] at this
      have hl := HL.out
      have hd := HD.out
      obtain ⟨v1, hv1⟩ : ∃ v1, v1 = Value.slice (subA (some ad) c 1 1) r.length (c - 1) := ⟨_, rfl⟩
      have hg : wr.grownBy (wr.setCell ⟨g, 0, none⟩ v1).drew (some g) := ⟨rfl, rfl, rfl, by simp [World.drew], fun k _ hk => heap_setCell_other _ _ _ _ (fun e => hk (by rw [e]))⟩
      have hd1 : l.drop (pre.length + 1) = r := by rw [← List.drop_drop, hd]; rfl
      have hst : NextSt b g ob l (pre.length + 1) (wr.setCell ⟨g, 0, none⟩ v1).drew := by
        refine ⟨hbx.kept hg (fun e => hbg (Option.some.inj e)), hbg, v1, by rw [hv1, own_slice, subA_map]; exact HOB.out, ?_⟩
        rw [hd1]
        refine ⟨Boxed.set (v := Value.slice (some ad) (x :: r).length c) v1 hsg, _, _, hv1, by omega, by omega, ?_, subA_ne hne⟩
        have := (hrd.drop c 1 1 (by rw [u8v_length, List.length_cons]; omega)).grown hg (fun ad' e h => subA_ne (k := 1) (z := 1) (c := c) hne ad' e (Option.some.inj h))
        rwa [u8v_drop] at this
      obtain ⟨fn, tmps, assign, body, hy, hR⟩ := hY pre x r (wr.setCell ⟨g, 0, none⟩ v1).drew hl (hJ _ _ _ hJs ⟨v1, rfl⟩) hst
      unfold enc8 at hy
      rw [hv1] at hy hR
      clear hl hd hst hd1 hg hv1 hS hY hJ hJs
      gi_wp2
      gi_region_with_o (fail)
      all_goals gi_wp2
      all_goals
        refine hR.mono ?_
        rintro e W3 (⟨rfl, hJ3, hS3⟩ | ⟨rfl, hJ3⟩)
      all_goals gi_wp2
      all_goals first
        | (refine bodyPost_ret (results_none rfl _ _ _) rfl ?_
           exact ⟨⟨_, rfl⟩, .inr ⟨pre ++ [x], ⟨r, by rw [HL.out, List.append_assoc]; rfl⟩, hJ3⟩⟩)
        | (refine ⟨⟨pre ++ [x], r, by rw [HL.out, List.append_assoc]; rfl, hJ3, by rw [List.length_append]; exact hS3⟩, ?_⟩
           obtain ⟨_, _, v3, _, h3, A3, c3, rfl, _⟩ := hS3
           rw [Boxed.cell h3, c2]
           have := congrArg List.length HD.out
           simp only [List.length_drop, List.length_cons] at this ⊢
           omega)
        | fail
end Go.Proofs.Ytfifbjlmbdgmjaa
