/- net: Double. -/
import Derived.Test.YtfojlmnlolnilaaNetI
import Derived.Test.YtfojlmnlolnilaaNetGd
import Derived.Deep.QuietTactic
import Derived.BigQuiet
namespace Go.Proofs.Ytfojlmnlolnilaa
open Go.RowKit Go.Shelf
attribute [local go_sem] Oper.semAt_some

theorem each_any (g : Nat) (w : World) : Calls Try.prog 36 #[.pointer (some ⟨g, 0, none⟩)] w fun e w' => e = .returned (.func (.func 46) #[] #[.pointer (some ⟨w.heap.size, 0, none⟩)]) ∧ w' = w.alloc (.cells #[.pointer (some ⟨g, 0, none⟩)] 30) := by
  go_enter Try.func36, Try.ntmps36
  go_wp2
  go_ret
  exact ⟨rfl, rfl⟩
theorem own_cells {W : World} {B : Nat} {e : TypeId} {s k n : Nat} {v : Value} {xs : List Value} {o : Obj} (h : W.ownsRow B e s v n xs) (hb : v.ownBlock = some k) (hk : W.heap[k]? = some o) : o.isCells = true := by
  rcases h.2 with ⟨rfl, _⟩ | ⟨g, cap, cur, rfl, _, hg, _⟩
  · cases hb
  · obtain rfl : g = k := by simpa [Value.ownBlock] using hb
    rw [hg] at hk
    cases hk
    rfl
theorem own_putObj {W : World} {B : Nat} {e : TypeId} {s n k : Nat} {v : Value} {xs : List Value} {o : Obj} (h : W.ownsRow B e s v n xs) (ho : W.heap[k]? = some o) (hc : o.isCells = false) (o' : Obj) : (W.putObj k o').ownsRow B e s v n xs :=
  own_of_block h fun j hj => World.putObj_heap_other (fun e => by subst e; rw [own_cells h hj ho] at hc; cases hc)
theorem NetAt.putObj {B g : Nat} {room : Int} {v : Value} {s d x : Int} {fl : List Fl} {W : World} (h : NetAt B g room v s d x fl W) {k : Nat} {o : Obj} (ho : W.heap[k]? = some o) (hc : o.isCells = false) (o' : Obj) : NetAt B g room v s d x fl (W.putObj k o') := by
  have hg : g ≠ k := fun e => by
    subst e
    have h1 := h.c
    unfold NetC at h1
    rw [ho] at h1
    cases h1
    cases hc
  exact ⟨(World.putObj_heap_other hg).trans h.c, own_putObj h.row ho hc o', fun y hy => ⟨(h.raw y hy).1, own_putObj (h.raw y hy).2 ho hc o'⟩, h.apart, h.hB⟩
theorem boxed_putObj {W : World} {b : Nat} {t : TypeId} {v : Value} (h : Boxed W b t v) {k : Nat} {o : Obj} (ho : W.heap[k]? = some o) (hc : o.isCells = false) (o' : Obj) : Boxed (W.putObj k o') b t v :=
  (World.putObj_heap_other (fun e => by subst e; unfold Boxed at h; rw [ho] at h; cases h; cases hc)).trans h
theorem below_putObj {B k : Nat} {w W : World} (h : Below B w W) (hk : B ≤ k) (o' : Obj) : Below B w (W.putObj k o') :=
  ⟨h.os, h.tape, h.output, by rw [World.putObj_size]; exact h.size, fun j hj => (World.putObj_heap_other (by omega)).trans (h.block j hj)⟩
theorem kept_putObj {ex : Nat → Prop} {w W : World} {k : Nat} (h : Kept ex w W) (hk : w.heap.size ≤ k) (o' : Obj) : Kept ex w (W.putObj k o') :=
  ⟨h.os, h.tape, h.output, by rw [World.putObj_size]; exact h.size, fun j hj he => (World.putObj_heap_other (by omega)).trans (h.block j hj he)⟩
def DblI (g i : Nat) (w : World) (pre : List (Fl × Nat)) (W : World) : Prop := pre.length ≤ i ∧ Boxed W w.heap.size 30 (.pointer (some ⟨g, 0, none⟩)) ∧ Boxed W (w.heap.size + 1) 3 (.int .i64 (i : Int)) ∧ Kept (fun k => k = g) w W
def dblA (g i ws : Nat) (A : Option Addr) (n c : Nat) (room : Int) (f25 : Value) (k b7 : Nat) (v27 : Value) : Act := { tmps := #[.pointer (some ⟨g, 0, none⟩), .int .i64 (i : Int), .pointer (some ⟨ws, 0, none⟩), .pointer (some ⟨ws + 1, 0, none⟩), .int .i64 0, .int .i64 0, .int .i64 (k : Int), .pointer (some ⟨b7, 0, none⟩), .pointer (some ⟨g, 0, none⟩), .int .i64 (i : Int), .int .i64 0, .int .i64 0, .bool false, undef, .pointer (some ⟨g, 0, none⟩), .pointer (some ⟨g, 0, none⟩), .pointer (some ⟨g, 1, none⟩), .slice A n c, .int .i64 (n : Int), .pointer (some ⟨g, 0, none⟩), .pointer (some ⟨g, 0, none⟩), .pointer (some ⟨g, 0, none⟩), .int .i64 room, .bool (decide (room ≤ (n : Int))), .pointer (some ⟨g, 0, none⟩), f25, .int .i64 (k : Int), v27, undef, undef, undef, undef, undef, undef, undef, undef, undef, undef, undef, undef, undef, undef], defers := [] }
def DblM (B b g i : Nat) (room : Int) (A : Option Addr) (c : Nat) (s d x : Int) (fl : List Fl) (f25 : Value) (w : World) (pre : List (Fl × Nat)) (z : Fl × Nat) (a : Act) (W : World) : Prop :=
  DblI g i w pre W ∧ EachSt B b g room (.slice A fl.length c) s d x fl W ∧ ∃ A' c' W0 b7, a = dblA g i w.heap.size A fl.length c room f25 z.2 b7 (.agg #[.int .i64 z.1.f, .int .i64 z.1.t, .slice A' z.1.n c', .bool z.1.bad]) ∧ w.heap.size ≤ b7 ∧
    W.heap[b7]? = some (.cells #[.int .i64 z.1.f, .int .i64 z.1.t, .slice A' z.1.n c', .bool z.1.bad] 74 (0, 0)) ∧ NetAt B g room (.slice A fl.length c) s d x fl W0 ∧ W.ownsRow W0.heap.size 5 1 (.slice A' z.1.n c') z.1.n (u8v z.1.l)
def DblX (B g i : Nat) (room : Int) (s d x : Int) (fl : List Fl) (w : World) (cd : Code) (_ : List (Fl × Nat)) (W : World) : Prop :=
  cd = .exit 0 ∧ ∃ y, fl[i]? = some y ∧ ∃ A2 c2 A' c', NetAt B g room (.slice A2 (fl.length + 1) c2) s d x (fl ++ [⟨y.f, y.t, A', y.n, c', y.l, y.bad⟩]) W ∧ Kept (fun k => k = g) w W
set_option maxRecDepth 100000 in
set_option maxHeartbeats 4000000 in
theorem double_ok (B g : Nat) (room : Int) (v : Value) (s d x : Int) (fl : List Fl) (w : World) (hN : NetAt B g room v s d x fl w) (hBw : B ≤ w.heap.size) (hr1 : 1 ≤ room) (hr2 : room ≤ 4096) (hlt : (fl.length : Int) < room) (hbig : ∀ y ∈ fl, y.n ≤ 100000000) (i : Nat) (hi : i < fl.length) :
    Calls Try.prog 15 #[.pointer (some ⟨g, 0, none⟩), .int .i64 (i : Int)] w fun e w' => e = .returned (.int .i64 0) ∧ ∃ A2 c2 A' c', NetAt B g room (.slice A2 (fl.length + 1) c2) s d x (fl ++ [⟨(fl[i]).f, (fl[i]).t, A', (fl[i]).n, c', (fl[i]).l, (fl[i]).bad⟩]) w' ∧ Kept (fun k => k = g) w w' := by
  obtain ⟨A, c, rfl, hnc, hcm, hrd, hA0⟩ := hN.rows
  have hcmi : (c : Int) ≤ 9223372036854775807 := by unfold maxLen at hcm; omega
  obtain ⟨w1, hw1⟩ : ∃ w1, w1 = (w.alloc (.cells #[.pointer (some ⟨g, 0, none⟩)] 30)).alloc (.cells #[.int .i64 (i : Int)] 3) := ⟨_, rfl⟩
  have hb1 : Below w.heap.size w w1 := by rw [hw1]; exact ((Below.refl _ _).alloc (Nat.le_refl _) _).alloc (by simp) _
  have hx0 : Boxed w1 w.heap.size 30 (.pointer (some ⟨g, 0, none⟩)) := by rw [hw1]; exact heap_alloc2_old _ _ _
  have hx1 : Boxed w1 (w.heap.size + 1) 3 (.int .i64 (i : Int)) := by rw [hw1]; exact heap_alloc2_new _ _ _
  have hN1 := hN.below hb1
  have hrdy := ready_any g room A fl.length c s d x w1 hN1.c hr1 i (by omega)
  have hrE : readyE fl.length (i : Int) = 0 := by unfold readyE; rw [if_neg (by omega)]
  rw [hrE] at hrdy
  have hgl := lt_get hN.c
  have x0 := hx0.cell
  have x1 := hx1.cell
  have hlt2 : ¬ room ≤ (fl.length : Int) := by omega
  have c0 := hN1.c.c0
  have c1 := hN1.c.c1
  refine (callsIn_wide (n := 5)).1 ?_
  refine callsIn_of_wp_marks Try.func15 rfl trivial ?_ rfl
  simp only [Try.ntmps15, List.size_toArray, List.length_cons, List.length_nil, Nat.reduceAdd, Nat.reduceSub, Array.replicate_succ, Array.replicate_zero, List.push_toArray, List.append_toArray, List.nil_append, List.cons_append]
  gi_wp2_with fail
  rw [← hw1]
  clear hw1
  refine wpIn_wide.2 (wp_scope_straight ((wpIn_wide (n := 5)).1 ?_))
  gi_wp2_with (first
    | (refine wpIn_label ?_)
    | (refine ⟨trivial, ?_⟩; gi_at_call 34; refine (callsIn_wide.2 hrdy).mono ?_; rintro e w' ⟨rfl, hw'⟩; rw [hw']; clear hw')
    | fail)
  refine wpIn_wide.2 ?_
  go_quiet (fail)
  have hb12 : Below w1.heap.size w1 (w1.drewN nq) := below_drewN _ _
  have hb2 := below_then hb1 hb12 (Nat.le_refl _)
  have hN2 := hN1.below hb12
  have hx02 : Boxed (w1.drewN nq) w.heap.size 30 (.pointer (some ⟨g, 0, none⟩)) := (hb12.block _ hx0.lt).trans hx0
  have hx12 : Boxed (w1.drewN nq) (w.heap.size + 1) 3 (.int .i64 (i : Int)) := (hb12.block _ hx1.lt).trans hx1
  generalize w1.drewN nq = w2 at *
  clear x0 x1 c0 c1 hx0 hx1 hN1 hrdy
  have x0 := hx02.cell
  obtain ⟨w3, hw3⟩ : ∃ w3, w3 = w2.alloc (.cells #[.pointer (some ⟨g, 0, none⟩)] 30) := ⟨_, rfl⟩
  have hea := each_any g w2
  rw [← hw3] at hea
  gi_wp2_with (first
    | (refine wpIn_label ?_)
    | (refine ⟨trivial, ?_⟩; gi_at_call 36; refine (callsIn_wide.2 hea).mono ?_; rintro e w' ⟨rfl, hw'⟩; rw [hw']; clear hw')
    | fail)
  have hb3 : Below w2.heap.size w2 w3 := by rw [hw3]; exact (Below.refl _ _).alloc (Nat.le_refl _) _
  have hz3 : w3.heap.size = w2.heap.size + 1 := by rw [hw3, World.size_alloc]
  have hx3 : Boxed w3 w2.heap.size 30 (.pointer (some ⟨g, 0, none⟩)) := by rw [hw3]; exact heap_alloc_new _ _
  have hk3 : Kept (fun k => k = g) w w3 := Kept.of_below (below_then hb2 hb3 (Nat.le_refl _))
  have hN3 := hN2.below hb3
  have hx03 := (hb3.block _ hx02.lt).trans hx02
  have hx13 := (hb3.block _ hx12.lt).trans hx12
  rw [← hw3]
  refine range_rel (F := Fence.wide) (n := 5) rfl (by omega) (gf := 46) (lb := #[.pointer (some ⟨w2.heap.size, 0, none⟩)]) rfl trivial (enters_of Try.func46 (by kernel_rfl) rfl) (EachE B w2.heap.size g room (.slice A fl.length c) s d x fl) (fun z y W h => by obtain ⟨_, _, _, rfl, _⟩ := h; rfl) fl.zipIdx (fun _ W => EachSt B w2.heap.size g room (.slice A fl.length c) s d x fl W) EachCh
    (fun r o => each_hands 4 (by omega) B w2.heap.size g room _ s d x fl _ ?st (by omega) hbig) ?hch (DblI g i w) (DblX B g i room s d x fl w) ?h0 ?hIc ?hIp ?hSp ?hIxp (DblM B w2.heap.size g i room A c s d x fl (.func (.func 46) #[] #[.pointer (some ⟨w2.heap.size, 0, none⟩)]) w) ?hMp ?assign ?body ?done ?stop
  case st =>
    have hb := ((Below.refl _ w3).alloc (Nat.le_refl _) o).alloc (show w3.heap.size ≤ (w3.alloc o).heap.size by simp) r
    exact ⟨(hb.block _ hx3.lt).trans hx3, hN3.below hb⟩
  case hch =>
    intro a b h k o hk _
    exact (h.block k (Array.getElem?_eq_some_iff.1 hk).1).trans hk
  case h0 =>
    intro o r
    have hb := ((Below.refl _ w3).alloc (Nat.le_refl _) o).alloc (show w3.heap.size ≤ (w3.alloc o).heap.size by simp) r
    exact ⟨Nat.zero_le _, (hb.block _ (lt_get hx03)).trans hx03, (hb.block _ (lt_get hx13)).trans hx13, hk3.below hb⟩
  case hIc =>
    rintro q X Y ⟨h1, h2, h3, h4⟩ hch
    exact ⟨h1, (hch.block _ h2.lt).trans h2, (hch.block _ h3.lt).trans h3, h4.below hch⟩
  case hIp =>
    rintro q X k o o' ⟨h1, h2, h3, h4⟩ hk ho hc
    exact ⟨h1, boxed_putObj h2 ho hc o', boxed_putObj h3 ho hc o', kept_putObj h4 (by have := hk3.size; omega) o'⟩
  case hSp =>
    rintro q X k o o' ⟨h1, h2⟩ hk ho hc
    exact ⟨boxed_putObj h1 ho hc o', h2.putObj ho hc o'⟩
  case hIxp =>
    rintro cd q X k o o' ⟨h1, y, hy, A2, c2, A', c', h2, h4⟩ hk ho hc
    exact ⟨h1, y, hy, A2, c2, A', c', h2.putObj ho hc o', kept_putObj h4 (by have := hk3.size; omega) o'⟩
  case hMp =>
    rintro q z a X k o o' ⟨⟨h1, h2, h3, h4⟩, ⟨h5, h6⟩, A', c', W0, b7, h7, h8, h9, h10, h12⟩ hk ho hc
    exact ⟨⟨h1, boxed_putObj h2 ho hc o', boxed_putObj h3 ho hc o', kept_putObj h4 (by have := hk3.size; omega) o'⟩, ⟨boxed_putObj h5 ho hc o', h6.putObj ho hc o'⟩, A', c', W0, b7, h7, h8,
      (World.putObj_heap_other (fun e => by subst e; rw [ho] at h9; cases h9; cases hc)).trans h9, h10, own_putObj h12 ho hc o'⟩
  case done =>
    rintro D W rfl ⟨h1, _⟩ _ _
    rw [List.length_zipIdx] at h1
    omega
  case assign =>
    rintro l pre z rest y W K hxs ⟨i1, i2, i3, i4⟩ hSt ⟨A', c', W0, rfl, ⟨hN0, _⟩, how⟩ hsz hK
    obtain ⟨W', hW'⟩ : ∃ W', W' = W.alloc (.cells #[.int .i64 z.1.f, .int .i64 z.1.t, .slice A' z.1.n c', .bool z.1.bad] 74) := ⟨_, rfl⟩
    have hbW : Below W.heap.size W W' := by rw [hW']; exact (Below.refl _ _).alloc (Nat.le_refl _) _
    have h7 : W'.heap[W.heap.size]? = some (.cells #[.int .i64 z.1.f, .int .i64 z.1.t, .slice A' z.1.n c', .bool z.1.bad] 74 (0, 0)) := by rw [hW']; exact heap_alloc_new _ _
    have hM := hK (dblA g i w.heap.size A fl.length c room (.func (.func 46) #[] #[.pointer (some ⟨w2.heap.size, 0, none⟩)]) z.2 W.heap.size (.agg #[.int .i64 z.1.f, .int .i64 z.1.t, .slice A' z.1.n c', .bool z.1.bad])) W'
      ⟨⟨i1, (hbW.block _ i2.lt).trans i2, (hbW.block _ i3.lt).trans i3, i4.below hbW⟩, ⟨(hbW.block _ hSt.1.lt).trans hSt.1, hSt.2.below hbW⟩, A', c', W0, W.heap.size, rfl, i4.size, h7, hN0, own_below how hbW⟩
      (fun k o hk _ => (hbW.block k (Array.getElem?_eq_some_iff.1 hk).1).trans hk)
    unfold dblA at hM
    rw [hW'] at hM
    clear hK h7 hbW hW' i2 i3 i4 hSt how hN0
    gi_wp2_with fail
    exact hM
  case stop =>
    rintro D cd pre W rfl hpre ⟨rfl, y, hy, A2, c2, A', c', hN', hk'⟩ hD
    gi_wp2_with fail
    rw [Exit.noGoto_ret]
    gi_wp2_with fail
    refine ⟨by simp, .inl ⟨_, _, rfl, run_takeDeferred hD, ?_⟩⟩
    obtain rfl : fl[i] = y := by rw [List.getElem?_eq_getElem hi] at hy; exact Option.some.inj hy
    exact ⟨_, results_tmp rfl _ _ _, rfl, A2, c2, A', c', hN'.putObj hD rfl _, kept_putObj hk' hk3.size _⟩
  case body =>
    rintro l pre z rest a' W hxs ⟨⟨i1, i2, i3, i4⟩, hSt, A', c', W0, b7, rfl, h8, h9, h10, h12⟩ hsz
    obtain ⟨hp, rfl⟩ := zip_at hxs
    unfold dblA
    have x3 := i3.cell
    by_cases hpi : pre.length = i
    · have hpi2 : ((pre.length : Int) == (i : Int)) = true := by rw [beq_iff_eq]; omega
      have hNW := hSt.2
      have hrow2 : ∀ W', Below W.heap.size W W' → RdC W' A (flC fl) := fun W' hb => by
        obtain ⟨A9, c9, e, _, _, hr, _⟩ := (hNW.below hb).rows
        have e1 : A = A9 := by injection e
        rw [e1]
        exact hr
      gi_wp2_with fail
      refine ndbl10 g w.heap.size b7 fl.length c (fl[pre.length]).n c' W.heap.size A A' (flC fl) (fl[pre.length]).f (fl[pre.length]).t (fl[pre.length]).bad W (Nat.le_refl _) (flC_length fl) (by omega) hnc hcm hA0 hrow2 (fun W' hb => (hb.block _ (lt_get h9)).trans h9) (fun W' hb => (hNW.below hb).c.c1) (fun W' hb => Boxed.cell ((hb.block _ i2.lt).trans i2)) ?_ (fun W' hb => (hNW.below hb).c.fr 1) fun w5 r38 A2 c2 hb5 ho1 => ?_
      · rintro ⟨a, w, h⟩
        exact h
      have hN5 := hNW.below hb5
      gi_wp2_with fail
      have hlen : (fl ++ [(⟨(fl[pre.length]).f, (fl[pre.length]).t, A', (fl[pre.length]).n, c', (fl[pre.length]).l, (fl[pre.length]).bad⟩ : Fl)]).length = fl.length + 1 := by simp
      have hcs : flC (fl ++ [(⟨(fl[pre.length]).f, (fl[pre.length]).t, A', (fl[pre.length]).n, c', (fl[pre.length]).l, (fl[pre.length]).bad⟩ : Fl)]) = flC fl ++ [.int .i64 (fl[pre.length]).f, .int .i64 (fl[pre.length]).t, .slice A' (fl[pre.length]).n c', .bool (fl[pre.length]).bad] := by rw [flC_append]; rfl
      have hoth : ∀ k, k ≠ g → (w5.setCell ⟨g, 1, none⟩ (.slice A2 (fl.length + 1) c2)).heap[k]? = w5.heap[k]? := fun k hk => heap_setCell_other _ _ _ _ hk
      have hgW : g < W.heap.size := lt_get hNW.c
      have hg0 : g < W0.heap.size := lt_get h10.c
      have hB0 := hN.hB
      have h12' := own_below h12 hb5
      refine ⟨⟨by simpa using hb5.size, fun k o hk hc => (KeepsOthers.setCell w5 ⟨g, 1, none⟩ _).same k o ((hb5.block k (Array.getElem?_eq_some_iff.1 hk).1).trans hk) hc⟩, rfl, fl[pre.length], by rw [← hpi]; exact List.getElem?_eq_getElem hp, A2, c2, A', c', ⟨hN5.c.set1 _, ?_, fun y hy => ?_, ?_, hN.hB⟩, (i4.below hb5).set (.inl rfl)⟩
      · rw [hlen, hcs]
        exact own_mono (own_of_block ho1 fun k hk => hoth k fun e => by have := (ho1.lt k hk).1; omega) (by omega)
      · rcases List.mem_append.1 hy with hy | hy
        · exact ⟨(hN5.raw y hy).1, own_of_block (hN5.raw y hy).2 fun k hk => hoth k fun e => hN5.rawNe y hy (by rw [hk, e])⟩
        · obtain rfl := List.mem_singleton.1 hy
          exact ⟨(hN.raw _ (List.getElem_mem hp)).1, own_mono (own_of_block h12' fun k hk => hoth k fun e => by have := (h12'.lt k hk).1; omega) (by omega)⟩
      · rw [List.pairwise_append]
        refine ⟨hN.apart, List.pairwise_singleton _ _, fun y hy z hz b hb e => ?_⟩
        obtain rfl := List.mem_singleton.1 hz
        have h1 := ((h10.raw y hy).2.lt b hb).2
        have h2 := (h12'.lt b e).1
        omega
    · have hpi2 : ((pre.length : Int) == (i : Int)) = false := by rw [beq_eq_false_iff_ne]; omega
      gi_wp2_with fail
      exact ⟨⟨Nat.le_refl _, fun _ _ h _ => h⟩, hSt, by rw [List.length_append]; simp; omega, i2, i3, i4⟩
end Go.Proofs.Ytfojlmnlolnilaa
