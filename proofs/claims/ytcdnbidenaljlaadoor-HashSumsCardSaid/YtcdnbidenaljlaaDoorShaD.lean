/- hash: a Running, as it lies; Add. -/
import Derived.Test.YtcdnbidenaljlaaDoorShaGa
import Derived.StillTailTactics
import Derived.Deep.RegionHeld3
import Derived.Deep.DeepCutAuto
namespace Go.Proofs.YtcdnbidenaljlaaDoor
open Go.RowKit

def runC (b : Bool) (s : S8) (v : Value) (m : Int) : Array Value := #[.bool b, .int .u32 (s.a : Int), .int .u32 (s.b : Int), .int .u32 (s.c : Int), .int .u32 (s.d : Int), .int .u32 (s.e : Int), .int .u32 (s.f : Int), .int .u32 (s.g : Int), .int .u32 (s.h : Int), v, .int .i64 m]
theorem runC_0 (b b' : Bool) (s : S8) (v : Value) (m : Int) : (runC b s v m).setIfInBounds 0 (.bool b') = runC b' s v m := rfl
theorem runC_9 (b : Bool) (s : S8) (v v' : Value) (m : Int) : (runC b s v m).setIfInBounds 9 v' = runC b s v' m := rfl
theorem runC_10 (b : Bool) (s : S8) (v : Value) (m m' : Int) : (runC b s v m).setIfInBounds 10 (.int .i64 m') = runC b s v m' := rfl
theorem runC_1 (b : Bool) (s s' : S8) (v : Value) (m : Int) : ((runC b s v m).toList.take 1 ++ (u32C s'.l).toList ++ (runC b s v m).toList.drop (1 + (u32C s'.l).size)).toArray = runC b s' v m := rfl
def S8.zero : S8 := ⟨0, 0, 0, 0, 0, 0, 0, 0⟩
def stOf (b : Bool) (l : List UInt8) : S8 := if b = true then hs l (l.length / 64) else S8.zero
def restB (l : List UInt8) (k : Nat) : List UInt8 := l.drop (64 * k)
/-- A Running whose state is behind k blocks. -/
structure RunF (F : Nat → Prop) (g : Nat) (b : Bool) (s : S8) (l : List UInt8) (k : Nat) (A : Option Addr) (c : Nat) (w : World) : Prop where
  row : w.heap[g]? = some (.cells (runC b s (.slice A (l.length - 64 * k) c) (l.length : Int)) 30 (0, 0))
  le : 64 * k ≤ l.length
  nc : l.length - 64 * k ≤ c
  cm : c ≤ maxLen
  rd : RdC w A (u8v (l.drop (64 * k)))
  nil : A = none → l.length - 64 * k = 0
  far : ∀ ad, A = some ad → (64 * k < l.length → F ad.block) ∧ ad.block ≠ g
def RunAtF (F : Nat → Prop) (g : Nat) (b : Bool) (l : List UInt8) (w : World) : Prop := (b = false → l = []) ∧ ∃ A c, RunF F g b (stOf b l) l (l.length / 64) A c w
/-- The same with memory from a block on. -/
abbrev RunK (B g : Nat) (b : Bool) (s : S8) (l : List UInt8) (k : Nat) (A : Option Addr) (c : Nat) (w : World) : Prop := RunF (fun x => B ≤ x) g b s l k A c w
abbrev RunAt (B g : Nat) (b : Bool) (l : List UInt8) (w : World) : Prop := RunAtF (fun x => B ≤ x) g b l w
def BegRow (w : World) : Prop := ∃ t fr, w.heap[0]? = some (.cells (u32C S8.begin.l) t fr)
/-- Both tables lie as they were laid. -/
def TabsOK (w : World) : Prop := FacRow w ∧ BegRow w
theorem TabsOK.grown {g : Nat} {w w' : World} (h : TabsOK w) (hg : w.grownBy w' (some g)) {b : Bool} {s : S8} {v : Value} {m : Int} (hr : w.heap[g]? = some (.cells (runC b s v m) 30 (0, 0))) : TabsOK w' := by
  obtain ⟨⟨t1, f1, h1⟩, ⟨t2, f2, h2⟩⟩ := h
  refine ⟨⟨t1, f1, (hg.block _ (lt_of_get h1) (fun e => ?_)).trans h1⟩, ⟨t2, f2, (hg.block _ (lt_of_get h2) (fun e => ?_)).trans h2⟩⟩
  · have e := Option.some.inj e
    subst e
    rw [h1] at hr
    have h3 : u32C ks = runC b s v m := by injection hr with hr; injection hr
    have h4 := congrArg Array.size h3
    rw [u32C_size] at h4
    exact absurd h4 (by show ¬ 64 = 11; omega)
  · have e := Option.some.inj e
    subst e
    rw [h2] at hr
    have h3 : u32C S8.begin.l = runC b s v m := by injection hr with hr; injection hr
    have h4 := congrArg Array.size h3
    rw [u32C_size] at h4
    exact absurd h4 (by show ¬ 8 = 11; omega)
theorem TabsOK.below {w W : World} (h : TabsOK w) (hb : Below w.heap.size w W) : TabsOK W := by
  obtain ⟨⟨t1, f1, h1⟩, ⟨t2, f2, h2⟩⟩ := h
  exact ⟨⟨t1, f1, (hb.block _ (lt_of_get h1)).trans h1⟩, ⟨t2, f2, (hb.block _ (lt_of_get h2)).trans h2⟩⟩
theorem zero_64b : (Tryd.prog.info? 58).bind (fun i => i.zero.map Value.cells) = some (u8v (List.replicate 64 0)).toArray := by kernel_rfl
theorem rd_or {w w' : World} {g : Nat} {A : Option Addr} {l : List UInt8} (h : RdC w A (u8v l)) (hg : w.grownBy w' (some g)) (hA : ∀ ad, A = some ad → ad.block ≠ g ∨ l = []) : RdC w' A (u8v l) := by
  by_cases h0 : l = []
  · subst h0; exact RdC.nil _ _
  · exact h.grown hg (fun ad e h1 => (hA ad e).elim (fun h2 => h2 (Option.some.inj h1)) h0)
theorem len_any (g : Nat) (b : Bool) (s : S8) (v : Value) (m : Int) (w : World) (h : w.heap[g]? = some (.cells (runC b s v m) 30 (0, 0))) :
    Calls Tryd.prog 12 #[.pointer (some ⟨g, 0, none⟩)] w fun e w' => e = .returned (.int .i64 m) ∧ w = w' := by
  have c10 : w.cell? ⟨g, 10, none⟩ = some (.int .i64 m) := by rw [cell_of_row _ _ _ _ _ _ h]; rfl
  go_enter Tryd.func12, Tryd.ntmps12
  go_wp2
  go_ret
  exact ⟨rfl, rfl⟩
theorem len_nil (w : World) : Calls Tryd.prog 12 #[.pointer none] w fun e w' => e = .returned (.int .i64 0) ∧ w = w' := by
  go_enter Tryd.func12, Tryd.ntmps12
  go_wp2
  go_ret
  exact ⟨rfl, rfl⟩
theorem add_nil (v : Value) (w : World) : Calls Tryd.prog 9 #[.pointer none, v] w fun e w' => e = .returned (.pointer none) ∧ w = w' := by
  go_enter Tryd.func9, Tryd.ntmps9
  go_wp2
  go_ret
  exact ⟨rfl, rfl⟩
set_option maxRecDepth 100000 in
set_option maxHeartbeats 2000000 in
theorem add_anyF (F : Nat → Prop) (g : Nat) (b : Bool) (l : List UInt8) (w : World) (hR0 : RunAtF F g b l w) (hBw : ∀ x, w.heap.size ≤ x → F x) (hT0 : TabsOK w) (A2 : Option Addr) (n2 c2 : Nat) (l2 : List UInt8) (hn2 : l2.length = n2) (hnc : n2 ≤ c2) (hr20 : RdC w A2 (u8v l2)) (hA2 : ∀ ad, A2 = some ad → ad.block ≠ g ∨ l2 = []) (hlen : l.length + n2 ≤ 1000000) :
    Calls Tryd.prog 9 #[.pointer (some ⟨g, 0, none⟩), .slice A2 n2 c2] w fun e w' => e = .returned (.pointer (some ⟨g, 0, none⟩)) ∧ RunAtF F g true (l ++ l2) w' ∧ w.grownBy w' (some g) := by
  obtain ⟨hbl, A, c, hR0⟩ := hR0
  have hrow0 := hR0.row
  cases b
  have HB := Lib.hid (hbl rfl)
  have hbe : hs l (l.length / 64) = S8.begin := by rw [HB.out]; rfl
  obtain ⟨tb0, fr0, hbeg⟩ := hT0.2
  have c0 : w.cell? ⟨g, 0, none⟩ = some (.bool false) := by rw [cell_of_row _ _ _ _ _ _ hrow0]; rfl
  have f0 : w.frozen? ⟨g, 0, none⟩ = false := frozen_of_row w g 0 _ _ hrow0
  have hrow1 : (w.setCell ⟨g, 0, none⟩ (.bool true)).heap[g]? = some (.cells (runC true (stOf false l) (.slice A (l.length - 64 * (l.length / 64)) c) (l.length : Int)) 30 (0, 0)) := by rw [heap_setCell_same _ _ _ _ _ _ hrow0, runC_0]
  have hg1 : w.grownBy (w.setCell ⟨g, 0, none⟩ (.bool true)) (some g) := ⟨rfl, rfl, rfl, by simp, fun j _ hj => heap_setCell_other _ _ _ _ (fun e => hj (by rw [e]))⟩
  obtain ⟨G, hG, hGs, hG1⟩ : ∃ G : Array Value, Hid (G = u32C S8.begin.l) ∧ G.size = 8 ∧ (∀ u ∈ G.toList, u.oneCell' = true) := ⟨_, rfl, rfl, u32C_one _⟩
  rw [← hG.out] at hbeg
  have hGi : (Tryd.prog.info? 28).map (·.size) = some G.size := by rw [hGs]; exact size_8
  have hGf : 1 + G.size ≤ (runC true (stOf false l) (.slice A (l.length - 64 * (l.length / 64)) c) (l.length : Int)).size := by rw [hGs]; exact (show 1 + 8 ≤ 11 by omega)
  have HBE := Lib.hid hbe
  clear hbl hbe
  go_enter Tryd.func9, Tryd.ntmps9
  go_upto_region 5 with (first
    | (with_reducible refine wpList_load_row rfl 28 (.global 0) rfl 0 rfl tb0 G _ _ hbeg Tryd.underlying28 rfl hGi ?_)
    | (with_reducible refine wpList_store_part rfl 28 (.tmp 19) (.tmp 15) rfl g 1 rfl G rfl _ _ hrow1 hGf hGi hG1 ?_)
    | fail)
  rw [hG.out, runC_1]
  obtain ⟨w4, hw4⟩ : ∃ w4, w4 = (w.setCell ⟨g, 0, none⟩ (.bool true)).setRow g (runC true S8.begin (.slice A (l.length - 64 * (l.length / 64)) c) (l.length : Int)) := ⟨_, rfl⟩
  have hG4 : w.grownBy w4 (some g) := by rw [hw4]; exact hg1.trans ⟨rfl, rfl, rfl, by simp [World.setRow], fun j _ hj => setRow_other _ _ _ _ (fun e => hj (by rw [e]))⟩
  have hrow : w4.heap[g]? = some (.cells (runC true (hs l (l.length / 64)) (.slice A (l.length - 64 * (l.length / 64)) c) (l.length : Int)) 30 (0, 0)) := by rw [hw4, HBE.out]; exact setRow_heap _ _ _ _ _ _ hrow1
  rw [← hw4]
  clear hw4 hg1 hrow1 hbeg c0 f0 hG hGs hG1 hGi hGf
  rotate_left
  have c0 : w.cell? ⟨g, 0, none⟩ = some (.bool true) := by rw [cell_of_row _ _ _ _ _ _ hrow0]; rfl
  have hrow : w.heap[g]? = some (.cells (runC true (hs l (l.length / 64)) (.slice A (l.length - 64 * (l.length / 64)) c) (l.length : Int)) 30 (0, 0)) := hrow0
  go_enter Tryd.func9, Tryd.ntmps9
  go_upto_region 5 with (fail)
  have hG4 : w.grownBy w (some g) := World.grownBy.refl _ _
  obtain ⟨w4, hw4⟩ : ∃ w4, w4 = w := ⟨_, rfl⟩
  rw [show w.grownBy w (some g) = w.grownBy w4 (some g) by rw [hw4]] at hG4
  rw [← hw4] at hrow
  rw [show w = w4 from hw4.symm]
  clear hw4 c0 hbl
  all_goals
    have hR : RunF F g true (hs l (l.length / 64)) l (l.length / 64) A c w4 := ⟨hrow, hR0.le, hR0.nc, hR0.cm, hR0.rd.grown hG4 (fun ad e h => (hR0.far ad e).2 (Option.some.inj h)), hR0.nil, hR0.far⟩
    have hT := hT0.grown hG4 hrow0
    have hr2 := rd_or hr20 hG4 hA2
    have hBw4 : ∀ x, w4.heap.size ≤ x → F x := fun x h => hBw x (Nat.le_trans hG4.size h)
    clear hR0 hrow0 hT0 hr20 hBw
    have c10 : w4.cell? ⟨g, 10, none⟩ = some (.int .i64 (l.length : Int)) := by rw [cell_of_row _ _ _ _ _ _ hrow]; rfl
    have f10 : w4.frozen? ⟨g, 10, none⟩ = false := frozen_of_row w4 g 10 _ _ hrow
    have hle := hR.le
    have HW5 : w4.grownBy (w4.setCell ⟨g, 10, none⟩ (.int .i64 ((l.length : Int) + (n2 : Int)))) (some g) := ⟨rfl, rfl, rfl, by simp, fun j _ hj => heap_setCell_other _ _ _ _ (fun e => hj (by rw [e]))⟩
    have hrow5 : (w4.setCell ⟨g, 10, none⟩ (.int .i64 ((l.length : Int) + (n2 : Int)))).heap[g]? = some (.cells (runC true (hs l (l.length / 64)) (.slice A (l.length - 64 * (l.length / 64)) c) ((l.length : Int) + (n2 : Int))) 30 (0, 0)) := by rw [heap_setCell_same _ _ _ _ _ _ hrow, runC_10]
    go_upto_region 6 with (fail)
    obtain ⟨k0, hk0⟩ : ∃ k0, k0 = l.length / 64 := ⟨_, rfl⟩
    rw [← hk0] at hR hrow hrow5 hle
    have HK0 := Lib.hid hk0
    have hA0 := hR.nil
    have hcm := hR.cm
    have hn0 := hR.nc
    have hrd5 := hR.rd.grown HW5 (fun ad e h => (hR.far ad e).2 (Option.some.inj h))
    have hr25 : RdC (w4.setCell ⟨g, 10, none⟩ (.int .i64 ((l.length : Int) + (n2 : Int)))) A2 (u8v l2) := rd_or hr2 HW5 hA2
    have hT5 := hT.grown HW5 hrow
    have hfar := hR.far
    obtain ⟨r0, hr0⟩ : ∃ r0, r0 = l.length - 64 * k0 := ⟨_, rfl⟩
    rw [← hr0] at hrow5 hA0 hn0
    obtain ⟨w5, hw5⟩ : ∃ w5, w5 = w4.setCell ⟨g, 10, none⟩ (.int .i64 ((l.length : Int) + (n2 : Int))) := ⟨_, rfl⟩
    rw [← hw5] at hrow5 hrd5 hr25 hT5 HW5 ⊢
    have hbw5 : ∀ x, w5.heap.size ≤ x → F x := fun x h => hBw4 x (Nat.le_trans HW5.size h)
    have c9 : w5.cell? ⟨g, 9, none⟩ = some (.slice A r0 c) := by rw [cell_of_row _ _ _ _ _ _ hrow5]; rfl
    have HN2 := Lib.hid hn2
    have HR0 := Lib.hid hr0
    clear hw5 hrow c10 f10 hr2 hk0 hR hn2 hr0 hT
    have hrl : (u8v (l.drop (64 * k0))).length = r0 * 1 := by rw [u8v_length, List.length_drop, ← HR0.out]; omega
    have h2l : (u8v l2).length = n2 * 1 := by rw [u8v_length, HN2.out]; omega
    have HRL := Lib.hid hrl
    have H2L := Lib.hid h2l
    have hrl0 : r0 ≤ l.length := by have := HR0.out; omega
    clear hrl h2l
    go_wp2_with (first
      | (go_at_call 26; refine (clip_any A r0 c hn0 _).mono ?_; rintro e w' ⟨rfl, rfl⟩)
      | (at_builtin; go_loud (refine wpList_app_clip elt8 rfl (.tmp 34) (.tmp 35) rfl A r0 (u8v (l.drop (64 * k0))) rfl HRL.out hrd5 hA0 A2 n2 c2 (u8v l2) rfl H2L.out hr25 hnc (by unfold maxLen; omega) (by omega) ?_; intro A3 c3 w6 g1 g2 g3 g4 g5 g6; have hrow6 := (g6.block _ (lt_of_get hrow5)).trans hrow5; have c96 : w6.cell? ⟨g, 9, none⟩ = some (.slice A r0 c) := (by rw [cell_of_row _ _ _ _ _ _ hrow6]; rfl); have f96 : w6.frozen? ⟨g, 9, none⟩ = false := frozen_of_row w6 g 9 _ _ hrow6))
      | fail)
    obtain ⟨w7, hw7⟩ : ∃ w7, w7 = w6.setCell ⟨g, 9, none⟩ (.slice A3 (r0 + n2) c3) := ⟨_, rfl⟩
    have hg67 : w6.grownBy w7 (some g) := by rw [hw7]; exact ⟨rfl, rfl, rfl, by simp, fun j _ hj => heap_setCell_other _ _ _ _ (fun e => hj (by rw [e]))⟩
    have hrow7 : w7.heap[g]? = some (.cells (runC true (hs l k0) (.slice A3 (r0 + n2) c3) ((l.length : Int) + (n2 : Int))) 30 (0, 0)) := by rw [hw7, heap_setCell_same _ _ _ _ _ _ hrow6, runC_9]
    have HG7 : w.grownBy w7 (some g) := ((hG4.trans HW5).trans (grownBy_of_below g6 _)).trans hg67
    have hT7 : TabsOK w7 := (hT5.grown (grownBy_of_below g6 _) hrow5).grown hg67 hrow6
    have hK7 : RunF F g true (hs (l ++ l2) k0) (l ++ l2) k0 A3 c3 w7 := by
      have e1 : (l ++ l2).length = l.length + n2 := by rw [List.length_append, HN2.out]
      have e2 : (l ++ l2).length - 64 * k0 = r0 + n2 := by rw [e1]; have := HR0.out; omega
      have hne : ∀ ad, A3 = some ad → (64 * k0 < (l ++ l2).length → F ad.block) ∧ ad.block ≠ g := fun ad e => by
        rcases g5 ad e with h | h
        · exact ⟨fun _ => hbw5 _ h, by have := lt_of_get hrow5; omega⟩
        · exact ⟨fun h1 => (hfar ad h.1).1 (by rw [e1] at h1; have := h.2; omega), (hfar ad h.1).2⟩
      refine ⟨?_, by omega, by omega, g3, ?_, by rw [e2]; exact g4, hne⟩
      · rw [hrow7, hs_app _ _ _ hle, e2, e1]; congr 3
      · rw [List.drop_append_of_le_length hle, u8v_append]
        exact g1.grown hg67 (fun ad e h => (hne ad e).2 (Option.some.inj h))
    have HL := HN2.out
    rw [← hw7]
    obtain ⟨L, hL⟩ : ∃ L, L = l ++ l2 := ⟨_, rfl⟩
    have hLl : L.length ≤ 1000000 := by rw [hL, List.length_append, HL]; exact hlen
    rw [← hL] at hK7
    have HLL := Lib.hid hL
    clear hw7 hg67 hrow7 HL hL c96 f96 hrow6 g1 g2 g3 g4 g5 g6 c9 hrd5 hr25 hrow5 HW5 hT5 hbw5 hfar hA0 hn0 HR0 HRL H2L hrl0 hlen HN2 hcm hle
    go_loopw [5] (fun _ wr => ∃ (k : Nat) (A : Option Addr) (c : Nat), RunF F g true (hs L k) L k A c wr ∧ TabsOK wr ∧ w.grownBy wr (some g)) (fun _ wr => match wr.cell? ⟨g, 9, none⟩ with | some (.slice _ n _) => n | _ => 0)
    case atStart => exact ⟨_, _, _, hK7, hT7, HG7⟩
    case round =>
      obtain ⟨k, A, c, hK, hT, hG⟩ := hrel
      clear hK7 hT7 HG7
      have hrow := hK.row
      have c9 : wr.cell? ⟨g, 9, none⟩ = some (.slice A (L.length - 64 * k) c) := by rw [cell_of_row _ _ _ _ _ _ hrow]; rfl
      by_cases h64 : 64 ≤ L.length - 64 * k
      · obtain ⟨Z, hZ0, hZs⟩ : ∃ Z : List Value, (Tryd.prog.info? 58).bind (fun i => i.zero.map Value.cells) = some Z.toArray ∧ Z.length = 64 := ⟨u8v (List.replicate 64 0), zero_64b, by simp [u8v]⟩
        obtain ⟨w8, hw8⟩ : ∃ w8, w8 = wr.alloc (.cells Z.toArray 58) := ⟨_, rfl⟩
        have hb8 : Below wr.heap.size wr w8 := by rw [hw8]; exact (Below.refl _ _).alloc (Nat.le_refl _) _
        have hx8 : w8.heap[wr.heap.size]? = some (.cells Z.toArray 58 (0, 0)) := by rw [hw8]; exact heap_alloc_new _ _
        have hrow8 := (hb8.block _ (lt_of_get hrow)).trans hrow
        have c98 : w8.cell? ⟨g, 9, none⟩ = some (.slice A (L.length - 64 * k) c) := by rw [cell_of_row _ _ _ _ _ _ hrow8]; rfl
        have HW8 := Lib.hid hw8
        clear hw8
        have hmn : ((u8v (L.drop (64 * k))).take 64).length = 64 := by rw [List.length_take, u8v_length, List.length_drop]; omega
        have HMN := Lib.hid hmn
        have HZS := Lib.hid hZs
        have h64i : (64 : Int) ≤ ((L.length - 64 * k : Nat) : Int) := by omega
        have hmin : Nat.min (L.length - 64 * k) 64 = 64 := Nat.min_eq_right h64
        have HMI := Lib.hid hmin
        have hrd8 := hK.rd.below hb8
        obtain ⟨r, hr⟩ : ∃ r, r = L.length - 64 * k := ⟨_, rfl⟩
        rw [← hr] at hrow hrow8 c9 c98 h64 h64i
        have HR := Lib.hid hr
        clear hmn hZs hmin hr
        go_upto_region 9 with (first
          | (with_reducible refine wpList_alloc_z rfl 58 rfl Z.toArray hZ0 ?_)
          | fail)
        rw [← HW8.out]
        go_still_tail 5, (by kernel_rfl)
        change wpList _ _ _ _ _ w8.drew
        refine wpList_copy_splice rfl (.tmp 45) (.tmp 49) 22 22 rfl 5 Tryd.underlying22 (by kernel_rfl) (some ⟨wr.heap.size, 0, none⟩) A 64 64 r c rfl rfl wr.heap.size 0 Z 58 hx8 ((u8v (L.drop (64 * k))).take 64) ?_ ?_ ?_ ?_ wr.heap.size wr hb8.drew (Nat.le_refl _) ?_
        · rw [HMN.out]; exact (Nat.min_eq_right h64).symm
        · intro _
          refine ⟨rfl, ?_⟩
          have hlt : 0 < (u8v (L.drop (64 * k))).length := by rw [u8v_length, List.length_drop]; have := HR.out; omega
          obtain ⟨ad, e, _⟩ := hrd8 0 _ (List.getElem?_eq_getElem hlt)
          refine ⟨ad, e, fun j v hj => ?_⟩
          rw [List.getElem?_take] at hj
          split at hj
          · obtain ⟨ad', e', h⟩ := hrd8 j v hj
            rw [e] at e'
            cases e'
            exact h
          · cases hj
        · rw [HMN.out, HZS.out]; omega
        · exact fun u hu => u8v_one _ u (List.mem_of_mem_take hu)
        intro w9 hx9 hb9
        have hb89 : splice Z 0 ((u8v (L.drop (64 * k))).take 64) = u8v ((L.drop (64 * k)).take 64) := by
          rw [u8v_take]
          have h1 : (u8v ((L.drop (64 * k)).take 64)).length = 64 := by rw [← u8v_take]; exact HMN.out
          generalize u8v ((L.drop (64 * k)).take 64) = X at *
          unfold splice
          rw [List.take_zero, List.nil_append, h1, Nat.zero_add, List.drop_of_length_le (by rw [HZS.out]; omega), List.append_nil]
        rw [hb89] at hx9
        have hx := hx9.out
        clear hb89 hx9 hx8 c98 hrow8 hb8 HZS hZ0 HMN HMI HW8
        obtain ⟨blk, hblk⟩ : ∃ blk, blk = (L.drop (64 * k)).take 64 := ⟨_, rfl⟩
        rw [← hblk] at hx
        have hbl : blk.length = 64 := by rw [hblk, List.length_take, List.length_drop]; have := HR.out; omega
        have HBK := Lib.hid hblk
        clear hblk
        have hrow9 := (hb9.block _ (lt_of_get hrow)).trans hrow
        have hT9 := hT.grown (grownBy_of_below hb9 (some g)) hrow
        have hG9 := hG.trans (grownBy_of_below hb9 (some g))
        have hrd9 := hK.rd.below hb9
        go_upto_region 10 with (fail)
        have hok := hs_ok L k
        have hmx : ∀ W, Below w9.heap.size w9 W → Calls Tryd.prog 27 #[.agg (u32C (hs L k).l).toList.toArray, .agg (blkC blk)] W fun e w' => e = .returned (.agg (u32C (mixedS (hs L k) blk).l)) ∧ Below W.heap.size W w' := fun W hW => mixed_any _ hok blk hbl W ((hT9.grown (grownBy_of_below hW (some g)) hrow9).1) (by have := hW.size; obtain ⟨_, _, h⟩ := hT9.1; have := lt_of_get h; omega)
        refine sadd10 g wr.heap.size (u32C (hs L k).l).toList (blkC blk) (u32C (mixedS (hs L k) blk).l) (runC true (hs L k) (.slice A r c) (L.length : Int)) w9 (fun W hW j v hj => ?_) size_8 (by rw [show (blkC blk).size = 64 by simp [blkC, u8v, hbl]]; exact size_64b) hmx size_8 (u32C_one _) (show 1 + 8 ≤ 11 by omega) (fun W hW => (hW.block _ (lt_of_get hrow9)).trans hrow9) (fun W hW => (hW.block _ (lt_of_get hx)).trans hx) fun w10 hb10 => ?_
        · rw [cell_of_row _ _ _ _ _ _ ((hW.block _ (lt_of_get hrow9)).trans hrow9)]
          have hj8 : j < 8 := by
            have := (List.getElem?_eq_some_iff.1 hj).1
            simpa [u32C, S8.l] using this
          obtain rfl | rfl | rfl | rfl | rfl | rfl | rfl | rfl : j = 0 ∨ j = 1 ∨ j = 2 ∨ j = 3 ∨ j = 4 ∨ j = 5 ∨ j = 6 ∨ j = 7 := by omega
          all_goals exact hj
        rw [runC_1]
        have hrow10 := (hb10.block _ (lt_of_get hrow9)).trans hrow9
        obtain ⟨w11, hw11⟩ : ∃ w11, w11 = w10.setRow g (runC true (mixedS (hs L k) blk) (.slice A r c) (L.length : Int)) := ⟨_, rfl⟩
        have hrow11 : w11.heap[g]? = some (.cells (runC true (mixedS (hs L k) blk) (.slice A r c) (L.length : Int)) 30 (0, 0)) := by rw [hw11]; exact setRow_heap _ _ _ _ _ _ hrow10
        have hg11 : w10.grownBy w11 (some g) := by rw [hw11]; exact ⟨rfl, rfl, rfl, by simp [World.setRow], fun j _ hj => setRow_other _ _ _ _ (fun e => hj (by rw [e]))⟩
        have hG11 := (hG9.trans (grownBy_of_below hb10 (some g))).trans hg11
        have hT11 := (hT9.grown (grownBy_of_below hb10 (some g)) hrow9).grown hg11 hrow10
        have hrd11 := (hrd9.below hb10).grown hg11 (fun ad e h => (hK.far ad e).2 (Option.some.inj h))
        have hnext : mixedS (hs L k) blk = hs L (k + 1) := by rw [HBK.out]; rfl
        rw [hnext] at hrow11
        rw [← hw11]
        have hKr := hK.rd
        have hKc := hK.nc
        rw [← HR.out] at hKc
        have hKm := hK.cm
        have hKf := hK.far
        clear hw11 hg11 hrow10 hrd9 hT9 hG9 hrow9 hmx hx hnext hok hb9 hb10
        have c11 : w11.cell? ⟨g, 9, none⟩ = some (.slice A r c) := by rw [cell_of_row _ _ _ _ _ _ hrow11]; rfl
        have f11 : w11.frozen? ⟨g, 9, none⟩ = false := frozen_of_row w11 g 9 _ _ hrow11
        have hsub : ∀ W : World, (Instr.slice 22 (.slice A r c) (some (.int .i64 64)) none none).run Tryd.prog W = .ok (.slice (subA A c 64 1) (r - 64) (c - 64)) W := fun W => run_sub_l (P := Tryd.prog) W 22 A r c 1 Tryd.underlying22 (Tryd.sizeOf5 W) 64 64 rfl h64
        obtain ⟨A4, hA4⟩ : ∃ A4, A4 = subA A c 64 1 := ⟨_, rfl⟩
        rw [← hA4] at hsub
        have hrd12 : RdC w11 A4 (u8v (L.drop (64 * (k + 1)))) := by
          have := hrd11.drop c 64 1 (by rw [u8v_length, List.length_drop, ← HR.out]; omega)
          rw [hA4]
          rw [u8v_drop, List.drop_drop] at this
          exact this
        have hfar4 : ∀ ad, A4 = some ad → (64 * (k + 1) < L.length → F ad.block) ∧ ad.block ≠ g := fun ad e => by
          rw [hA4] at e
          unfold subA at e
          split at e
          · exact ⟨fun h1 => (hKf ad e).1 (by omega), (hKf ad e).2⟩
          · obtain ⟨ad', e', rfl⟩ := Option.map_eq_some_iff.1 e
            rw [addr_add_block]
            exact ⟨fun h1 => (hKf ad' e').1 (by omega), (hKf ad' e').2⟩
        have hnil4 : A4 = none → L.length - 64 * (k + 1) = 0 := fun e => by
          rw [hA4] at e
          have : A = none := by
            unfold subA at e
            split at e
            · exact e
            · simpa using e
          have := hK.nil this
          omega
        clear hA4 hrd11
        obtain ⟨w12, hw12⟩ : ∃ w12, w12 = w11.setCell ⟨g, 9, none⟩ (.slice A4 (r - 64) (c - 64)) := ⟨_, rfl⟩
        have hrow12 : w12.heap[g]? = some (.cells (runC true (hs L (k + 1)) (.slice A4 (r - 64) (c - 64)) (L.length : Int)) 30 (0, 0)) := by rw [hw12, heap_setCell_same _ _ _ _ _ _ hrow11, runC_9]
        have hg12 : w11.grownBy w12 (some g) := by rw [hw12]; exact ⟨rfl, rfl, rfl, by simp, fun j _ hj => heap_setCell_other _ _ _ _ (fun e => hj (by rw [e]))⟩
        have hfin : RunF F g true (hs L (k + 1)) L (k + 1) A4 (c - 64) w12 := by
          have e1 : L.length - 64 * (k + 1) = r - 64 := by have := HR.out; omega
          refine ⟨by rw [hrow12, e1], by have := HR.out; omega, by omega, by omega, hrd12.grown hg12 (fun ad e h => (hfar4 ad e).2 (Option.some.inj h)), hnil4, hfar4⟩
        have hT12 := hT11.grown hg12 hrow11
        have hG12 := hG11.trans hg12
        have HW12 := Lib.hid hw12
        have c12 : w12.cell? ⟨g, 9, none⟩ = some (.slice A4 (r - 64) (c - 64)) := by rw [cell_of_row _ _ _ _ _ _ hrow12]; rfl
        have C12 := Lib.hid c12
        clear hw12 hrow12 hg12 hrd12 hT11 hG11 c12 hK
        go_wp2_with fail
        rw [← HW12.out]
        refine ⟨⟨k + 1, A4, c - 64, hfin, hT12, hG12⟩, ?_⟩
        rw [C12.out, c9]
        show r - 64 < r
        omega
      · have hk : k = L.length / 64 := by have := hK.le; omega
        go_wp2_with fail
        go_ret
        refine ⟨rfl, ⟨(fun h => by cases h), A, c, ?_⟩, hG⟩
        rw [← HLL.out]
        rw [hk] at hK
        exact hK
theorem add_any (B g : Nat) (b : Bool) (l : List UInt8) (w : World) (hR0 : RunAt B g b l w) (hBw : B ≤ w.heap.size) (hT0 : TabsOK w) (A2 : Option Addr) (n2 c2 : Nat) (l2 : List UInt8) (hn2 : l2.length = n2) (hnc : n2 ≤ c2) (hr20 : RdC w A2 (u8v l2)) (hA2 : ∀ ad, A2 = some ad → ad.block ≠ g ∨ l2 = []) (hlen : l.length + n2 ≤ 1000000) :
    Calls Tryd.prog 9 #[.pointer (some ⟨g, 0, none⟩), .slice A2 n2 c2] w fun e w' => e = .returned (.pointer (some ⟨g, 0, none⟩)) ∧ RunAt B g true (l ++ l2) w' ∧ w.grownBy w' (some g) :=
  add_anyF (fun x => B ≤ x) g b l w hR0 (fun x h => Nat.le_trans hBw h) hT0 A2 n2 c2 l2 hn2 hnc hr20 hA2 hlen
end Go.Proofs.YtcdnbidenaljlaaDoor
