/- net: Copy. -/
import Derived.Test.YtfojlmnlolnilaaNetKp
import Derived.Test.YtfojlmnlolnilaaNetGh
import Derived.Test.YtfojlmnlolnilaaNetIb
import Derived.OwnWalkIn
namespace Go.Proofs.Ytfojlmnlolnilaa
open Go.RowKit Go.Shelf
attribute [local go_sem] Oper.semAt_some

def Fl.kb (y : Fl) : (Int × Int × List UInt8) × Bool := (y.key, y.bad)
/-- What Copy has gathered. -/
structure CpI (gc b3 : Nat) (room s d x : Int) (w : World) (pre : List Fl) (W : World) : Prop where
  st : ∃ (fl2 : List Fl) (A2 : Option Addr) (c2 : Nat), NetAt w.heap.size gc room (.slice A2 fl2.length c2) s d x fl2 W ∧ fl2.map Fl.kb = pre.map Fl.kb
  bx : Boxed W b3 30 (.pointer (some ⟨gc, 0, none⟩))
  b : Below w.heap.size w W
theorem CpI.below {gc b3 : Nat} {room s d x : Int} {w W W' : World} {pre : List Fl} (h : CpI gc b3 room s d x w pre W) (hb : Below W.heap.size W W') : CpI gc b3 room s d x w pre W' := by
  obtain ⟨⟨fl2, A2, c2, h1, h2⟩, h3, h4⟩ := h
  exact ⟨⟨fl2, A2, c2, h1.below hb, h2⟩, (hb.block _ h3.lt).trans h3, below_then h4 hb (Nat.le_refl _)⟩
theorem CpI.putObj {gc b3 : Nat} {room s d x : Int} {w W : World} {pre : List Fl} (h : CpI gc b3 room s d x w pre W) {k : Nat} (hk : w.heap.size ≤ k) {o : Obj} (ho : W.heap[k]? = some o) (hc : o.isCells = false) (o' : Obj) : CpI gc b3 room s d x w pre (W.putObj k o') := by
  obtain ⟨⟨fl2, A2, c2, h1, h2⟩, h3, h4⟩ := h
  exact ⟨⟨fl2, A2, c2, h1.putObj ho hc o', h2⟩, boxed_putObj h3 ho hc o', below_putObj h4 hk o'⟩
def cpA (g gc b3 : Nat) (room s d x : Int) (f19 : Value) (k b5 : Nat) (v21 : Value) : Act := { tmps := #[.pointer (some ⟨g, 0, none⟩), undef, .pointer none, .pointer (some ⟨b3, 0, none⟩), undef, .pointer (some ⟨b5, 0, none⟩), .pointer (some ⟨g, 0, none⟩), .bool false, .pointer (some ⟨g, 0, none⟩), .pointer (some ⟨g, 0, none⟩), .pointer (some ⟨g, 0, none⟩), .int .i64 room, .pointer (some ⟨g, 0, none⟩), .pointer (some ⟨g, 0, none⟩), .pointer (some ⟨g, 2, none⟩), .agg #[.int .i64 s, .int .i64 d, .int .i64 x], .agg #[.int .i64 room, .slice none 0 0, .int .i64 s, .int .i64 d, .int .i64 x], .pointer (some ⟨gc, 0, none⟩), .pointer (some ⟨g, 0, none⟩), f19, .int .i64 (k : Int), v21, undef, undef, undef, undef, undef, undef, undef, undef, undef, undef, undef], defers := [] }
structure CpS (B b g gc b3 b7 N : Nat) (room : Int) (A : Option Addr) (c : Nat) (s d x : Int) (fl fl2 : List Fl) (A2 : Option Addr) (c2 : Nat) (y : Fl) (w W0 W : World) : Prop where
  net : NetAt w.heap.size gc room (.slice A2 fl2.length c2) s d x fl2 W
  bx : Boxed W b3 30 (.pointer (some ⟨gc, 0, none⟩))
  bel : Below w.heap.size w W
  each : EachSt B b g room (.slice A fl.length c) s d x fl W
  box : W.heap[b7]? = some (.cells #[.int .i64 y.f, .int .i64 y.t, .slice y.A y.n y.c, .bool y.bad] 74 (0, 0))
  raw : W.ownsRow N 5 1 (.slice y.A y.n y.c) y.n (u8v y.l)
  keep : ∀ (k : Nat) (o : Obj), W0.heap[k]? = some o → o.isCells = false → W.heap[k]? = some o
  size : W0.heap.size ≤ W.heap.size
theorem CpS.below {B b g gc b3 b7 N : Nat} {room : Int} {A : Option Addr} {c : Nat} {s d x : Int} {fl fl2 : List Fl} {A2 : Option Addr} {c2 : Nat} {y : Fl} {w W0 W W' : World} (h : CpS B b g gc b3 b7 N room A c s d x fl fl2 A2 c2 y w W0 W) (hb : Below W.heap.size W W') : CpS B b g gc b3 b7 N room A c s d x fl fl2 A2 c2 y w W0 W' :=
  ⟨h.net.below hb, (hb.block _ h.bx.lt).trans h.bx, below_then h.bel hb (Nat.le_refl _), ⟨(hb.block _ h.each.1.lt).trans h.each.1, h.each.2.below hb⟩, (hb.block _ (lt_get h.box)).trans h.box, own_below h.raw hb, fun k o hk hc => (hb.block k (Array.getElem?_eq_some_iff.1 (h.keep k o hk hc)).1).trans (h.keep k o hk hc), Nat.le_trans h.size hb.size⟩
theorem CpS.drew {B b g gc b3 b7 N : Nat} {room : Int} {A : Option Addr} {c : Nat} {s d x : Int} {fl fl2 : List Fl} {A2 : Option Addr} {c2 : Nat} {y : Fl} {w W0 W : World} (h : CpS B b g gc b3 b7 N room A c s d x fl fl2 A2 c2 y w W0 W) : CpS B b g gc b3 b7 N room A c s d x fl fl2 A2 c2 y w W0 W.drew := h.below (Below.refl _ _).drew
theorem CpS.grown {B b g gc b3 b7 N : Nat} {room : Int} {A : Option Addr} {c : Nat} {s d x : Int} {fl fl2 : List Fl} {A2 : Option Addr} {c2 : Nat} {y : Fl} {w W0 W W' : World} (h : CpS B b g gc b3 b7 N room A c s d x fl fl2 A2 c2 y w W0 W) (hN : NetAt B g room (.slice A fl.length c) s d x fl w) (hne7 : (Value.slice A2 fl2.length c2).ownBlock ≠ some b7) (hg : W.grownBy W' (Value.slice A2 fl2.length c2).ownBlock) (ho : W'.ownsRow w.heap.size 74 4 (.slice A2 fl2.length c2) fl2.length (flC fl2)) : CpS B b g gc b3 b7 N room A c s d x fl fl2 A2 c2 y w W0 W' := by
  have hrow := h.net.row
  have hb' : Below w.heap.size w W' := h.bel.grown hg h.bel.size fun k hk => (hrow.lt k hk).1
  have hty : ∀ (k : Nat) (cs : Array Value) (t : TypeId) (fr : Nat × Nat), t ≠ 74 → W.heap[k]? = some (.cells cs t fr) → W'.heap[k]? = some (.cells cs t fr) := fun k cs t fr ht hk => (hg.block k (lt_get hk) (Ne.symm (own_ne hrow hk ht))).trans hk
  have hown : ∀ (B' n' : Nat) (v' : Value) (l' : List UInt8), W.ownsRow B' 5 1 v' n' (u8v l') → W'.ownsRow B' 5 1 v' n' (u8v l') := fun B' n' v' l' h' => own_of_block h' fun k hk => hg.block k (h'.lt k hk).2 (Ne.symm (own_apart h' hrow (by decide) k hk))
  exact ⟨⟨hty _ _ _ _ (by decide) h.net.c, ho, fun z hz => ⟨(h.net.raw z hz).1, hown _ _ _ _ (h.net.raw z hz).2⟩, h.net.apart, h.net.hB⟩, hty _ _ _ _ (by decide) h.bx, hb', ⟨hty _ _ _ _ (by decide) h.each.1, hN.below hb'⟩, (hg.block b7 (lt_get h.box) (Ne.symm hne7)).trans h.box, hown _ _ _ _ h.raw,
    fun k o hk hc => (hg.block k (Array.getElem?_eq_some_iff.1 (h.keep k o hk hc)).1 (fun e => by have := own_cells hrow e.symm (h.keep k o hk hc); rw [hc] at this; cases this)).trans (h.keep k o hk hc), Nat.le_trans h.size hg.size⟩
theorem NetAt.fresh2 (B g : Nat) (room s d x : Int) (W : World) (hB : B ≤ g) (hc : NetC g room (.slice none 0 0) s d x W) : NetAt B g room (.slice none 0 0) s d x [] W :=
  ⟨hc, ⟨rfl, .inl ⟨rfl, rfl⟩⟩, (fun y hy => by cases hy), List.Pairwise.nil, hB⟩
def CpM (B b g gc b3 : Nat) (room : Int) (A : Option Addr) (c : Nat) (s d x : Int) (fl : List Fl) (f19 : Value) (w : World) (pre : List (Fl × Nat)) (z : Fl × Nat) (a : Act) (W : World) : Prop :=
  ∃ (fl2 : List Fl) (A2 : Option Addr) (c2 N : Nat) (A' : Option Addr) (c' b7 : Nat), CpS B b g gc b3 b7 N room A c s d x fl fl2 A2 c2 ⟨z.1.f, z.1.t, A', z.1.n, c', z.1.l, z.1.bad⟩ w W W ∧ fl2.map Fl.kb = (pre.map Prod.fst).map Fl.kb ∧ (∀ y ∈ fl2, ∀ k, y.v.ownBlock = some k → k < N) ∧ w.heap.size ≤ N ∧ (Value.slice A2 fl2.length c2).ownBlock ≠ some b7 ∧ w.heap.size ≤ b7 ∧
    a = cpA g gc b3 room s d x f19 z.2 b7 (.agg #[.int .i64 z.1.f, .int .i64 z.1.t, .slice A' z.1.n c', .bool z.1.bad])
set_option maxRecDepth 100000 in
set_option maxHeartbeats 4000000 in
theorem copy_any (B g : Nat) (room : Int) (v : Value) (s d x : Int) (fl : List Fl) (w : World) (hN : NetAt B g room v s d x fl w) (hBw : B ≤ w.heap.size) (hr1 : 1 ≤ room) (hfl : fl.length ≤ 5000) (hbig : ∀ y ∈ fl, y.n ≤ 100000000) :
    Calls Try.prog 24 #[.pointer (some ⟨g, 0, none⟩)] w fun e w' => ∃ gc A2 c2 fl2, e = .returned (.pointer (some ⟨gc, 0, none⟩)) ∧ NetAt w.heap.size gc room (.slice A2 fl2.length c2) s d x fl2 w' ∧ fl2.map Fl.kb = fl.map Fl.kb ∧ Below w.heap.size w w' := by
  obtain ⟨A, c, rfl, hnc, hcm, hrd, hA0⟩ := hN.rows
  have hno := none_any g room _ s d x w hN.c hr1
  have c0 := hN.c.c0
  have c1 := hN.c.c1
  have c2 := hN.c.c2
  have c3 := hN.c.c3
  have c4 := hN.c.c4
  have hgl := lt_get hN.c
  refine (callsIn_wide (n := 5)).1 ?_
  refine callsIn_of_wp_marks Try.func24 rfl trivial ?_ rfl
  simp only [Try.ntmps24, List.size_toArray, List.length_cons, List.length_nil, Nat.reduceAdd, Nat.reduceSub, Array.replicate_succ, Array.replicate_zero, List.push_toArray, List.append_toArray, List.nil_append, List.cons_append]
  gi_wp2_with (first
    | (refine ⟨trivial, ?_⟩; gi_at_call 31; refine (callsIn_wide.2 hno).mono ?_; rintro e w' ⟨rfl, hw'⟩; rw [hw']; clear hw')
    | fail)
  refine wpIn_wide.2 ?_
  go_region
  all_goals go_wp2_with fail
  · obtain ⟨W2, hW2⟩ : ∃ W2, W2 = ((w.alloc (.cells #[.int .i64 room, .slice none 0 0, .int .i64 s, .int .i64 d, .int .i64 x] 70)).alloc (.cells #[.pointer (some ⟨w.heap.size, 0, none⟩)] 30)).drew := ⟨_, rfl⟩
    rw [← hW2]
    have hNc : NetC w.heap.size room (.slice none 0 0) s d x W2 := by rw [hW2]; exact heap_alloc2_old _ _ _
    have hbx : Boxed W2 (w.heap.size + 1) 30 (.pointer (some ⟨w.heap.size, 0, none⟩)) := by rw [hW2]; exact heap_alloc2_new _ _ _
    have hb2 : Below w.heap.size w W2 := by rw [hW2]; exact (((Below.refl _ _).alloc (Nat.le_refl _) _).alloc (by simp) _).drew
    obtain ⟨b3, hb3⟩ : ∃ b3, b3 = w.heap.size + 1 := ⟨_, rfl⟩
    obtain ⟨gc, hgc⟩ : ∃ gc, gc = w.heap.size := ⟨_, rfl⟩
    have hgw : w.heap.size ≤ gc := by omega
    have hb3w : w.heap.size ≤ b3 := by omega
    rw [← hb3] at hbx ⊢
    rw [← hgc] at hNc hbx ⊢
    clear hW2 hb3 hgc
    have hNg := NetAt.fresh2 w.heap.size gc room s d x W2 hgw hNc
    have hN2 := hN.below hb2
    obtain ⟨w3, hw3⟩ : ∃ w3, w3 = W2.alloc (.cells #[.pointer (some ⟨g, 0, none⟩)] 30) := ⟨_, rfl⟩
    have hea := each_any g W2
    rw [← hw3] at hea
    clear c0 c1 c2 c3 c4 hNc
    gi_wp2_with (first
      | (refine ⟨trivial, ?_⟩; gi_at_call 36; refine (callsIn_wide.2 hea).mono ?_; rintro e w' ⟨rfl, hw'⟩; rw [hw']; clear hw')
      | (refine wpIn_label ?_)
      | fail)
    rw [← hw3]
    have hb23 : Below W2.heap.size W2 w3 := by rw [hw3]; exact (Below.refl _ _).alloc (Nat.le_refl _) _
    have hx3 : Boxed w3 W2.heap.size 30 (.pointer (some ⟨g, 0, none⟩)) := by rw [hw3]; exact heap_alloc_new _ _
    have hN3 := hN2.below hb23
    have hNg3 := hNg.below hb23
    have hbx3 := (hb23.block _ hbx.lt).trans hbx
    have hb03 := below_then hb2 hb23 (Nat.le_refl _)
    clear hno hea hw3 hNg hbx hN2
    refine range_rel2 (F := Fence.wide) (n := 5) rfl (by omega) (gf := 46) (lb := #[.pointer (some ⟨W2.heap.size, 0, none⟩)]) rfl trivial (enters_of Try.func46 (by kernel_rfl) rfl) EachE2 (fun z y W0 W h => by obtain ⟨_, _, rfl, _⟩ := h; rfl) fl.zipIdx (fun _ W => EachSt B W2.heap.size g room (.slice A fl.length c) s d x fl W) EachCh
      (fun r o => each_hands2 4 (by omega) B W2.heap.size g room _ s d x fl _ ?st (by omega) hbig) ?hch (fun pre W => CpI gc b3 room s d x w (pre.map Prod.fst) W) (fun _ _ _ => False) ?h0 ?hIc ?hIp ?hSp ?hIxp (CpM B W2.heap.size g gc b3 room A c s d x fl (.func (.func 46) #[] #[.pointer (some ⟨W2.heap.size, 0, none⟩)]) w) ?hMp ?assign ?body ?done ?stop
    case st =>
      have hb := ((Below.refl _ w3).alloc (Nat.le_refl _) o).alloc (show w3.heap.size ≤ (w3.alloc o).heap.size by simp) r
      exact ⟨(hb.block _ hx3.lt).trans hx3, hN3.below hb⟩
    case hch =>
      intro a b h k o hk _
      exact (h.block k (Array.getElem?_eq_some_iff.1 hk).1).trans hk
    case h0 =>
      intro o r
      have hb := ((Below.refl _ w3).alloc (Nat.le_refl _) o).alloc (show w3.heap.size ≤ (w3.alloc o).heap.size by simp) r
      exact ⟨⟨[], none, 0, hNg3.below hb, rfl⟩, (hb.block _ (lt_get hbx3)).trans hbx3, below_then hb03 hb (Nat.le_refl _)⟩
    case hIc =>
      rintro q X Y h hch
      exact h.below hch
    case hIp =>
      rintro q X k o o' h hk ho hc
      exact h.putObj (by have := hb03.size; omega) ho hc o'
    case hSp =>
      rintro q X k o o' ⟨h1, h2⟩ hk ho hc
      exact ⟨boxed_putObj h1 ho hc o', h2.putObj ho hc o'⟩
    case hIxp =>
      rintro cd q X k o o' h
      exact h.elim
    case hMp =>
      rintro q z a X k o o' ⟨fl2, A2, c2, N, A', c', b7, hS, h1, h2, h3, h4, h5, h6⟩ hk ho hc
      exact ⟨fl2, A2, c2, N, A', c', b7, ⟨hS.net.putObj ho hc o', boxed_putObj hS.bx ho hc o', below_putObj hS.bel (by have := hb03.size; omega) o', ⟨boxed_putObj hS.each.1 ho hc o', hS.each.2.putObj ho hc o'⟩, (World.putObj_heap_other (fun e => by subst e; have h9 := hS.box; rw [ho] at h9; cases h9; cases hc)).trans hS.box, own_putObj hS.raw ho hc o', (fun _ _ h _ => h), Nat.le_refl _⟩, h1, h2, h3, h4, h5, h6⟩
    case stop =>
      rintro D cd pre W rfl hpre h hD
      exact h.elim
    case done =>
      rintro D W rfl h hS hD
      obtain ⟨⟨fl2, A2, c2, h1, h2⟩, h3, h4⟩ := h
      rw [List.zipIdx_map_fst] at h2
      have x3 := h3.cell
      gi_wp2_with fail
      refine ⟨by simp, .inl ⟨_, _, rfl, run_takeDeferred hD, ?_⟩⟩
      exact ⟨_, results_tmp rfl _ _ _, gc, A2, c2, fl2, rfl, h1.putObj hD rfl _, h2, below_putObj h4 hb03.size _⟩
    case assign =>
      rintro l pre z rest y W0 W K hxs hI0 hch hSt ⟨A', c', rfl, how⟩ hsz hK
      have hI := hI0.below hch
      obtain ⟨⟨fl2, A2, c2, g1, g2⟩, g3, g4⟩ := hI0
      obtain ⟨W', hW'⟩ : ∃ W', W' = W.alloc (.cells #[.int .i64 z.1.f, .int .i64 z.1.t, .slice A' z.1.n c', .bool z.1.bad] 74) := ⟨_, rfl⟩
      have hbW : Below W.heap.size W W' := by rw [hW']; exact (Below.refl _ _).alloc (Nat.le_refl _) _
      have h7 : W'.heap[W.heap.size]? = some (.cells #[.int .i64 z.1.f, .int .i64 z.1.t, .slice A' z.1.n c', .bool z.1.bad] 74 (0, 0)) := by rw [hW']; exact heap_alloc_new _ _
      have hM := hK (cpA g gc b3 room s d x (.func (.func 46) #[] #[.pointer (some ⟨W2.heap.size, 0, none⟩)]) z.2 W.heap.size (.agg #[.int .i64 z.1.f, .int .i64 z.1.t, .slice A' z.1.n c', .bool z.1.bad])) W'
        ⟨fl2, A2, c2, W0.heap.size, A', c', W.heap.size, ⟨(g1.below hch).below hbW, (hbW.block _ hI.bx.lt).trans hI.bx, below_then hI.b hbW (Nat.le_refl _), ⟨(hbW.block _ hSt.1.lt).trans hSt.1, hSt.2.below hbW⟩, h7, own_below how hbW, (fun _ _ h _ => h), Nat.le_refl _⟩, g2, (fun y hy k hk => ((g1.raw y hy).2.lt k hk).2), g4.size, (fun e => by have h8 := (g1.row.lt _ e).2; have h9 := hch.size; omega), hI.b.size, rfl⟩
        (fun k o hk _ => (hbW.block k (Array.getElem?_eq_some_iff.1 hk).1).trans hk)
      unfold cpA at hM
      rw [hW'] at hM
      clear hK h7 hbW hW' hI hSt how g1 g2 g3 g4
      gi_wp2_with fail
      exact hM
    case body =>
      rintro l pre z rest a' W hxs ⟨fl2, A2, c2, N, A', c', b7, hS, hk2, hlt, hNw, hne7, h7w, rfl⟩ hsz
      obtain ⟨hp, rfl⟩ := zip_at hxs
      unfold cpA
      have hyl := (hN.raw _ (List.getElem_mem hp)).1
      have hfl2 : fl2.length ≤ 5000 := by
        have h1 := congrArg List.length hk2
        simp only [List.length_map] at h1
        omega
      have hrow1 := hS.net.row
      generalize hyy : fl[pre.length] = y at *
      obtain ⟨yf, yt, yA, yn, yc, yl, yb⟩ := y
      simp only at hS hyl
      gi_wp2_with fail
      refine ncopy6 gc b3 b7 fl2.length c2 yn c' w.heap.size A2 A' (flC fl2) yf yt yb W (CpS B W2.heap.size g gc b3 b7 N room A c s d x fl fl2 A2 c2 ⟨yf, yt, A', yn, c', yl, yb⟩ w W) ?s0 ?sb (by omega) (fun X hX => hX.bel.size) (fun X hX => hX.net.row) ?sg (fun X hX => hX.box) (fun X hX => hX.bx.cell) (fun X hX => hX.net.c.c1) ?hq (fun X hX => hX.net.c.fr 1) fun w5 r28 A3 c3 hS5 ho5 => ?_
      case s0 => exact hS.drew
      case sb => exact fun X X' hX hb => hX.below hb
      case sg => exact fun X X' hX hg ho => hX.grown hN hne7 hg ho
      case hq =>
        rintro ⟨a, w, h⟩
        exact h
      gi_wp2_with fail
      have hlen : (fl2 ++ [(⟨yf, yt, A', yn, c', yl, yb⟩ : Fl)]).length = fl2.length + 1 := by simp
      have hcs : flC (fl2 ++ [(⟨yf, yt, A', yn, c', yl, yb⟩ : Fl)]) = flC fl2 ++ [.int .i64 yf, .int .i64 yt, .slice A' yn c', .bool yb] := by rw [flC_append]; rfl
      have hgc := hS5.net.c
      have hoth : ∀ k, k ≠ gc → (w5.setCell ⟨gc, 1, none⟩ (.slice A3 (fl2.length + 1) c3)).heap[k]? = w5.heap[k]? := fun k hk => heap_setCell_other _ _ _ _ hk
      have hty : ∀ (k : Nat) (cs : Array Value) (t : TypeId) (fr : Nat × Nat), t ≠ 70 → w5.heap[k]? = some (.cells cs t fr) → k ≠ gc := fun k cs t fr ht hk e => by
        subst e
        unfold NetC at hgc
        rw [hk] at hgc
        cases hgc
        exact ht rfl
      have hown : ∀ (B' n' : Nat) (v' : Value) (l' : List UInt8), w5.ownsRow B' 5 1 v' n' (u8v l') → (w5.setCell ⟨gc, 1, none⟩ (.slice A3 (fl2.length + 1) c3)).ownsRow B' 5 1 v' n' (u8v l') := fun B' n' v' l' h => own_of_block h fun k hk => hoth k fun e => own_ne h hgc (by decide) (by rw [hk, e])
      have hb6 : Below w.heap.size w (w5.setCell ⟨gc, 1, none⟩ (.slice A3 (fl2.length + 1) c3)) := hS5.bel.setCell hgw _
      refine ⟨⟨by simpa using hS5.size, fun k o hk hc => (KeepsOthers.setCell w5 ⟨gc, 1, none⟩ _).same k o (hS5.keep k o hk hc) hc⟩, ⟨(hoth _ (hty _ _ _ _ (by decide) hS5.each.1)).trans hS5.each.1, hN.below hb6⟩, ⟨⟨fl2 ++ [⟨yf, yt, A', yn, c', yl, yb⟩], A3, c3, ⟨?_, ?_, fun q hq => ?_, ?_, hgw⟩, ?_⟩, (hoth _ (hty _ _ _ _ (by decide) hS5.bx)).trans hS5.bx, hb6⟩⟩
      · rw [hlen]; exact hgc.set1 _
      · rw [hlen, hcs]
        exact own_of_block ho5 fun k hk => hoth k fun e => own_ne ho5 hgc (by decide) (by rw [hk, e])
      · rcases List.mem_append.1 hq with hq | hq
        · exact ⟨(hS5.net.raw q hq).1, hown _ _ _ _ (hS5.net.raw q hq).2⟩
        · obtain rfl := List.mem_singleton.1 hq
          exact ⟨hyl, own_mono (hown _ _ _ _ hS5.raw) hNw⟩
      · rw [List.pairwise_append]
        refine ⟨hS5.net.apart, List.pairwise_singleton _ _, fun q hq r hr b hb e => ?_⟩
        obtain rfl := List.mem_singleton.1 hr
        have h1 := hlt q hq b hb
        have h2 := (hS5.raw.lt b e).1
        omega
      · rw [List.map_append, List.map_append, List.map_append, hk2]; rfl
  · obtain ⟨W2, hW2⟩ : ∃ W2, W2 = ((w.alloc (.cells #[.pointer (some ⟨w.heap.size + 1, 0, none⟩)] 30)).alloc (.cells #[.int .i64 room, .slice none 0 0, .int .i64 s, .int .i64 d, .int .i64 x] 70)).drew := ⟨_, rfl⟩
    rw [← hW2]
    have hNc : NetC (w.heap.size + 1) room (.slice none 0 0) s d x W2 := by rw [hW2]; exact heap_alloc2_new _ _ _
    have hbx : Boxed W2 w.heap.size 30 (.pointer (some ⟨w.heap.size + 1, 0, none⟩)) := by rw [hW2]; exact heap_alloc2_old _ _ _
    have hb2 : Below w.heap.size w W2 := by rw [hW2]; exact (((Below.refl _ _).alloc (Nat.le_refl _) _).alloc (by simp) _).drew
    obtain ⟨gc, hgc⟩ : ∃ gc, gc = w.heap.size + 1 := ⟨_, rfl⟩
    obtain ⟨b3, hb3⟩ : ∃ b3, b3 = w.heap.size := ⟨_, rfl⟩
    have hgw : w.heap.size ≤ gc := by omega
    have hb3w : w.heap.size ≤ b3 := by omega
    rw [← hgc] at hNc hbx ⊢
    rw [← hb3] at hbx ⊢
    clear hW2 hb3 hgc
    have hNg := NetAt.fresh2 w.heap.size gc room s d x W2 hgw hNc
    have hN2 := hN.below hb2
    obtain ⟨w3, hw3⟩ : ∃ w3, w3 = W2.alloc (.cells #[.pointer (some ⟨g, 0, none⟩)] 30) := ⟨_, rfl⟩
    have hea := each_any g W2
    rw [← hw3] at hea
    clear c0 c1 c2 c3 c4 hNc
    gi_wp2_with (first
      | (refine ⟨trivial, ?_⟩; gi_at_call 36; refine (callsIn_wide.2 hea).mono ?_; rintro e w' ⟨rfl, hw'⟩; rw [hw']; clear hw')
      | (refine wpIn_label ?_)
      | fail)
    rw [← hw3]
    have hb23 : Below W2.heap.size W2 w3 := by rw [hw3]; exact (Below.refl _ _).alloc (Nat.le_refl _) _
    have hx3 : Boxed w3 W2.heap.size 30 (.pointer (some ⟨g, 0, none⟩)) := by rw [hw3]; exact heap_alloc_new _ _
    have hN3 := hN2.below hb23
    have hNg3 := hNg.below hb23
    have hbx3 := (hb23.block _ hbx.lt).trans hbx
    have hb03 := below_then hb2 hb23 (Nat.le_refl _)
    clear hno hea hw3 hNg hbx hN2
    refine range_rel2 (F := Fence.wide) (n := 5) rfl (by omega) (gf := 46) (lb := #[.pointer (some ⟨W2.heap.size, 0, none⟩)]) rfl trivial (enters_of Try.func46 (by kernel_rfl) rfl) EachE2 (fun z y W0 W h => by obtain ⟨_, _, rfl, _⟩ := h; rfl) fl.zipIdx (fun _ W => EachSt B W2.heap.size g room (.slice A fl.length c) s d x fl W) EachCh
      (fun r o => each_hands2 4 (by omega) B W2.heap.size g room _ s d x fl _ ?st (by omega) hbig) ?hch (fun pre W => CpI gc b3 room s d x w (pre.map Prod.fst) W) (fun _ _ _ => False) ?h0 ?hIc ?hIp ?hSp ?hIxp (CpM B W2.heap.size g gc b3 room A c s d x fl (.func (.func 46) #[] #[.pointer (some ⟨W2.heap.size, 0, none⟩)]) w) ?hMp ?assign ?body ?done ?stop
    case st =>
      have hb := ((Below.refl _ w3).alloc (Nat.le_refl _) o).alloc (show w3.heap.size ≤ (w3.alloc o).heap.size by simp) r
      exact ⟨(hb.block _ hx3.lt).trans hx3, hN3.below hb⟩
    case hch =>
      intro a b h k o hk _
      exact (h.block k (Array.getElem?_eq_some_iff.1 hk).1).trans hk
    case h0 =>
      intro o r
      have hb := ((Below.refl _ w3).alloc (Nat.le_refl _) o).alloc (show w3.heap.size ≤ (w3.alloc o).heap.size by simp) r
      exact ⟨⟨[], none, 0, hNg3.below hb, rfl⟩, (hb.block _ (lt_get hbx3)).trans hbx3, below_then hb03 hb (Nat.le_refl _)⟩
    case hIc =>
      rintro q X Y h hch
      exact h.below hch
    case hIp =>
      rintro q X k o o' h hk ho hc
      exact h.putObj (by have := hb03.size; omega) ho hc o'
    case hSp =>
      rintro q X k o o' ⟨h1, h2⟩ hk ho hc
      exact ⟨boxed_putObj h1 ho hc o', h2.putObj ho hc o'⟩
    case hIxp =>
      rintro cd q X k o o' h
      exact h.elim
    case hMp =>
      rintro q z a X k o o' ⟨fl2, A2, c2, N, A', c', b7, hS, h1, h2, h3, h4, h5, h6⟩ hk ho hc
      exact ⟨fl2, A2, c2, N, A', c', b7, ⟨hS.net.putObj ho hc o', boxed_putObj hS.bx ho hc o', below_putObj hS.bel (by have := hb03.size; omega) o', ⟨boxed_putObj hS.each.1 ho hc o', hS.each.2.putObj ho hc o'⟩, (World.putObj_heap_other (fun e => by subst e; have h9 := hS.box; rw [ho] at h9; cases h9; cases hc)).trans hS.box, own_putObj hS.raw ho hc o', (fun _ _ h _ => h), Nat.le_refl _⟩, h1, h2, h3, h4, h5, h6⟩
    case stop =>
      rintro D cd pre W rfl hpre h hD
      exact h.elim
    case done =>
      rintro D W rfl h hS hD
      obtain ⟨⟨fl2, A2, c2, h1, h2⟩, h3, h4⟩ := h
      rw [List.zipIdx_map_fst] at h2
      have x3 := h3.cell
      gi_wp2_with fail
      refine ⟨by simp, .inl ⟨_, _, rfl, run_takeDeferred hD, ?_⟩⟩
      exact ⟨_, results_tmp rfl _ _ _, gc, A2, c2, fl2, rfl, h1.putObj hD rfl _, h2, below_putObj h4 hb03.size _⟩
    case assign =>
      rintro l pre z rest y W0 W K hxs hI0 hch hSt ⟨A', c', rfl, how⟩ hsz hK
      have hI := hI0.below hch
      obtain ⟨⟨fl2, A2, c2, g1, g2⟩, g3, g4⟩ := hI0
      obtain ⟨W', hW'⟩ : ∃ W', W' = W.alloc (.cells #[.int .i64 z.1.f, .int .i64 z.1.t, .slice A' z.1.n c', .bool z.1.bad] 74) := ⟨_, rfl⟩
      have hbW : Below W.heap.size W W' := by rw [hW']; exact (Below.refl _ _).alloc (Nat.le_refl _) _
      have h7 : W'.heap[W.heap.size]? = some (.cells #[.int .i64 z.1.f, .int .i64 z.1.t, .slice A' z.1.n c', .bool z.1.bad] 74 (0, 0)) := by rw [hW']; exact heap_alloc_new _ _
      have hM := hK (cpA g gc b3 room s d x (.func (.func 46) #[] #[.pointer (some ⟨W2.heap.size, 0, none⟩)]) z.2 W.heap.size (.agg #[.int .i64 z.1.f, .int .i64 z.1.t, .slice A' z.1.n c', .bool z.1.bad])) W'
        ⟨fl2, A2, c2, W0.heap.size, A', c', W.heap.size, ⟨(g1.below hch).below hbW, (hbW.block _ hI.bx.lt).trans hI.bx, below_then hI.b hbW (Nat.le_refl _), ⟨(hbW.block _ hSt.1.lt).trans hSt.1, hSt.2.below hbW⟩, h7, own_below how hbW, (fun _ _ h _ => h), Nat.le_refl _⟩, g2, (fun y hy k hk => ((g1.raw y hy).2.lt k hk).2), g4.size, (fun e => by have h8 := (g1.row.lt _ e).2; have h9 := hch.size; omega), hI.b.size, rfl⟩
        (fun k o hk _ => (hbW.block k (Array.getElem?_eq_some_iff.1 hk).1).trans hk)
      unfold cpA at hM
      rw [hW'] at hM
      clear hK h7 hbW hW' hI hSt how g1 g2 g3 g4
      gi_wp2_with fail
      exact hM
    case body =>
      rintro l pre z rest a' W hxs ⟨fl2, A2, c2, N, A', c', b7, hS, hk2, hlt, hNw, hne7, h7w, rfl⟩ hsz
      obtain ⟨hp, rfl⟩ := zip_at hxs
      unfold cpA
      have hyl := (hN.raw _ (List.getElem_mem hp)).1
      have hfl2 : fl2.length ≤ 5000 := by
        have h1 := congrArg List.length hk2
        simp only [List.length_map] at h1
        omega
      have hrow1 := hS.net.row
      generalize hyy : fl[pre.length] = y at *
      obtain ⟨yf, yt, yA, yn, yc, yl, yb⟩ := y
      simp only at hS hyl
      gi_wp2_with fail
      refine ncopy6 gc b3 b7 fl2.length c2 yn c' w.heap.size A2 A' (flC fl2) yf yt yb W (CpS B W2.heap.size g gc b3 b7 N room A c s d x fl fl2 A2 c2 ⟨yf, yt, A', yn, c', yl, yb⟩ w W) ?s0 ?sb (by omega) (fun X hX => hX.bel.size) (fun X hX => hX.net.row) ?sg (fun X hX => hX.box) (fun X hX => hX.bx.cell) (fun X hX => hX.net.c.c1) ?hq (fun X hX => hX.net.c.fr 1) fun w5 r28 A3 c3 hS5 ho5 => ?_
      case s0 => exact hS.drew
      case sb => exact fun X X' hX hb => hX.below hb
      case sg => exact fun X X' hX hg ho => hX.grown hN hne7 hg ho
      case hq =>
        rintro ⟨a, w, h⟩
        exact h
      gi_wp2_with fail
      have hlen : (fl2 ++ [(⟨yf, yt, A', yn, c', yl, yb⟩ : Fl)]).length = fl2.length + 1 := by simp
      have hcs : flC (fl2 ++ [(⟨yf, yt, A', yn, c', yl, yb⟩ : Fl)]) = flC fl2 ++ [.int .i64 yf, .int .i64 yt, .slice A' yn c', .bool yb] := by rw [flC_append]; rfl
      have hgc := hS5.net.c
      have hoth : ∀ k, k ≠ gc → (w5.setCell ⟨gc, 1, none⟩ (.slice A3 (fl2.length + 1) c3)).heap[k]? = w5.heap[k]? := fun k hk => heap_setCell_other _ _ _ _ hk
      have hty : ∀ (k : Nat) (cs : Array Value) (t : TypeId) (fr : Nat × Nat), t ≠ 70 → w5.heap[k]? = some (.cells cs t fr) → k ≠ gc := fun k cs t fr ht hk e => by
        subst e
        unfold NetC at hgc
        rw [hk] at hgc
        cases hgc
        exact ht rfl
      have hown : ∀ (B' n' : Nat) (v' : Value) (l' : List UInt8), w5.ownsRow B' 5 1 v' n' (u8v l') → (w5.setCell ⟨gc, 1, none⟩ (.slice A3 (fl2.length + 1) c3)).ownsRow B' 5 1 v' n' (u8v l') := fun B' n' v' l' h => own_of_block h fun k hk => hoth k fun e => own_ne h hgc (by decide) (by rw [hk, e])
      have hb6 : Below w.heap.size w (w5.setCell ⟨gc, 1, none⟩ (.slice A3 (fl2.length + 1) c3)) := hS5.bel.setCell hgw _
      refine ⟨⟨by simpa using hS5.size, fun k o hk hc => (KeepsOthers.setCell w5 ⟨gc, 1, none⟩ _).same k o (hS5.keep k o hk hc) hc⟩, ⟨(hoth _ (hty _ _ _ _ (by decide) hS5.each.1)).trans hS5.each.1, hN.below hb6⟩, ⟨⟨fl2 ++ [⟨yf, yt, A', yn, c', yl, yb⟩], A3, c3, ⟨?_, ?_, fun q hq => ?_, ?_, hgw⟩, ?_⟩, (hoth _ (hty _ _ _ _ (by decide) hS5.bx)).trans hS5.bx, hb6⟩⟩
      · rw [hlen]; exact hgc.set1 _
      · rw [hlen, hcs]
        exact own_of_block ho5 fun k hk => hoth k fun e => own_ne ho5 hgc (by decide) (by rw [hk, e])
      · rcases List.mem_append.1 hq with hq | hq
        · exact ⟨(hS5.net.raw q hq).1, hown _ _ _ _ (hS5.net.raw q hq).2⟩
        · obtain rfl := List.mem_singleton.1 hq
          exact ⟨hyl, own_mono (hown _ _ _ _ hS5.raw) hNw⟩
      · rw [List.pairwise_append]
        refine ⟨hS5.net.apart, List.pairwise_singleton _ _, fun q hq r hr b hb e => ?_⟩
        obtain rfl := List.mem_singleton.1 hr
        have h1 := hlt q hq b hb
        have h2 := (hS5.raw.lt b e).1
        omega
      · rw [List.map_append, List.map_append, List.map_append, hk2]; rfl
end Go.Proofs.Ytfojlmnlolnilaa
