/- net: All. -/
import Derived.Test.YtfojlmnlolnilaaNetL
import Derived.OwnWalkIn
namespace Go.Proofs.Ytfojlmnlolnilaa
open Go.RowKit Go.Shelf
attribute [local go_sem] Oper.semAt_some

theorem wpListIn_app2 {F : Fence} {nn : Nat} {P : Program} {t e : TypeId} {size bytes : Nat} {z : Value} (E : Elt P t e size bytes z) {w : World} {ops : Array Oper} {rest : List Oper} {o : Oper} {a : Act} {Q : Exit → Act → World → Prop} (hgd : o.guard = none) (s x : Operand)
    (ho : o.op = .call { callee := .builtin .append, args := #[s, x], argTypes := #[t, t] })
    (base : Nat) (v : Value) (n : Nat) (xs : List Value) (hs : a.eval s = v) (hown : w.ownsRow base e size v n xs) (A : Option Addr) (m c : Nat) (news : List Value) (hx : a.eval x = .slice A m c)
    (hl : news.length = m * size) (hr : RdC w A news) (h1 : ∀ u ∈ news, u.oneCell' = true) (h63 : n + m ≤ maxLen) (hbytes : (n + m) * bytes ≤ 140737488355328) (hbase : base ≤ w.heap.size)
    (h : ∀ v' w', w'.ownsRow base e size v' (n + m) (xs ++ news) → w.grownBy w' v.ownBlock → (∀ k, v'.ownBlock = some k → v.ownBlock = some k ∨ k = w.heap.size) → wpListIn F nn P ops Q rest (a.put o.dst v') w') : wpListIn F nn P ops Q (o :: rest) a w := by
  refine wpListIn_plain hgd fun K hK => ?_
  obtain ⟨v', w', hrun, h2, h3, h4⟩ := run_app2 E o.type w base v n xs hown A m c news hl hr h1 h63 hbytes hbase
  unfold Oper.wpIn
  refine ⟨?_, ?_⟩
  · simp [Oper.about, ho, resolve, Target.leads, Sem.run_pure]
  · rw [Oper.semAt_plain F _ _ (by rw [ho]; intro c hc'; cases hc')]
    simp [execOp, ho, resolve, invoke, builtin, hs, hx, hrun, Result.andThen]
    exact hK _ _ (h v' w' h2 h3 h4)
theorem none_off (g : Nat) (room : Int) (v : Value) (s d x : Int) (w : World) (h : NetC g room v s d x w) (hr : 1 ≤ room) : Calls Try.prog 31 #[.pointer (some ⟨g, 0, none⟩)] w fun e w' => e = .returned (.bool false) ∧ w' = w := none_any g room v s d x w h hr
/-- What All has gathered. -/
structure AllI (B b3 : Nat) (w : World) (pre : List Fl) (W : World) : Prop where
  st : ∃ (G : List Fl) (uA : Option Addr) (uc : Nat), Boxed W b3 35 (.slice uA G.length uc) ∧ W.ownsRow B 38 3 (.slice uA G.length uc) G.length (apC G) ∧ G.map Fl.key = pre.map Fl.key ∧ (∀ y ∈ G, y.l.length = y.n ∧ W.ownsRow B 5 1 y.v y.n (u8v y.l))
  b : Below w.heap.size w W
theorem AllI.below {B b3 : Nat} {w W W' : World} {pre : List Fl} (h : AllI B b3 w pre W) (hb : Below W.heap.size W W') : AllI B b3 w pre W' := by
  obtain ⟨⟨G, uA, uc, h1, h2, h3, h4⟩, h5⟩ := h
  exact ⟨⟨G, uA, uc, (hb.block _ h1.lt).trans h1, own_below h2 hb, h3, fun y hy => ⟨(h4 y hy).1, own_below (h4 y hy).2 hb⟩⟩, below_then h5 hb (Nat.le_refl _)⟩
theorem AllI.putObj {B b3 : Nat} {w W : World} {pre : List Fl} (h : AllI B b3 w pre W) {k : Nat} (hk : w.heap.size ≤ k) {o : Obj} (ho : W.heap[k]? = some o) (hc : o.isCells = false) (o' : Obj) : AllI B b3 w pre (W.putObj k o') := by
  obtain ⟨⟨G, uA, uc, h1, h2, h3, h4⟩, h5⟩ := h
  exact ⟨⟨G, uA, uc, boxed_putObj h1 ho hc o', own_putObj h2 ho hc o', h3, fun y hy => ⟨(h4 y hy).1, own_putObj (h4 y hy).2 ho hc o'⟩⟩, below_putObj h5 hk o'⟩
def allA (g ws : Nat) (f9 : Value) (k b5 : Nat) (v11 : Value) : Act := { tmps := #[.pointer (some ⟨g, 0, none⟩), undef, .slice none 0 0, .pointer (some ⟨ws, 0, none⟩), undef, .pointer (some ⟨b5, 0, none⟩), .pointer (some ⟨g, 0, none⟩), .bool false, .pointer (some ⟨g, 0, none⟩), f9, .int .i64 (k : Int), v11, undef, undef, undef, undef, undef, undef], defers := [] }
def AllM (B b g : Nat) (room : Int) (A : Option Addr) (c : Nat) (s d x : Int) (fl : List Fl) (f9 : Value) (w : World) (pre : List (Fl × Nat)) (z : Fl × Nat) (a : Act) (W : World) : Prop :=
  AllI w.heap.size w.heap.size w (pre.map Prod.fst) W ∧ EachSt B b g room (.slice A fl.length c) s d x fl W ∧ ∃ A' c' W0 b7, a = allA g w.heap.size f9 z.2 b7 (.agg #[.int .i64 z.1.f, .int .i64 z.1.t, .slice A' z.1.n c', .bool z.1.bad]) ∧ w.heap.size ≤ b7 ∧
    W.heap[b7]? = some (.cells #[.int .i64 z.1.f, .int .i64 z.1.t, .slice A' z.1.n c', .bool z.1.bad] 74 (0, 0)) ∧ (NetAt B g room (.slice A fl.length c) s d x fl W0 ∧ b < W0.heap.size) ∧ W.ownsRow W0.heap.size 5 1 (.slice A' z.1.n c') z.1.n (u8v z.1.l)
set_option maxRecDepth 100000 in
set_option maxHeartbeats 4000000 in
theorem all_any (B g : Nat) (room : Int) (v : Value) (s d x : Int) (fl : List Fl) (w : World) (hN : NetAt B g room v s d x fl w) (hBw : B ≤ w.heap.size) (hr1 : 1 ≤ room) (hfl : fl.length ≤ 5000) (hbig : ∀ y ∈ fl, y.n ≤ 100000000) :
    Calls Try.prog 20 #[.pointer (some ⟨g, 0, none⟩)] w fun e w' => ∃ G uA uc, e = .returned (.slice uA G.length uc) ∧ w'.ownsRow w.heap.size 38 3 (.slice uA G.length uc) G.length (apC G) ∧ G.map Fl.key = fl.map Fl.key ∧ (∀ y ∈ G, y.l.length = y.n ∧ w'.ownsRow w.heap.size 5 1 y.v y.n (u8v y.l)) ∧ Below w.heap.size w w' := by
  obtain ⟨A, c, rfl, hnc, hcm, hrd, hA0⟩ := hN.rows
  have hno := none_any g room _ s d x w hN.c hr1
  obtain ⟨w2, hw2⟩ : ∃ w2, w2 = w.alloc (.cells #[.slice none 0 0] 35) := ⟨_, rfl⟩
  have hb2 : Below w.heap.size w w2 := by rw [hw2]; exact (Below.refl _ _).alloc (Nat.le_refl _) _
  have hx2 : Boxed w2 w.heap.size 35 (.slice none 0 0) := by rw [hw2]; exact heap_alloc_new _ _
  have hN2 := hN.below hb2
  obtain ⟨w3, hw3⟩ : ∃ w3, w3 = w2.alloc (.cells #[.pointer (some ⟨g, 0, none⟩)] 30) := ⟨_, rfl⟩
  have hea := each_any g w2
  rw [← hw3] at hea
  have HW2 := Lib.hid hw2
  clear hw2
  refine (callsIn_wide (n := 5)).1 ?_
  refine callsIn_of_wp_marks Try.func20 rfl trivial ?_ rfl
  simp only [Try.ntmps20, List.size_toArray, List.length_cons, List.length_nil, Nat.reduceAdd, Nat.reduceSub, Array.replicate_succ, Array.replicate_zero, List.push_toArray, List.append_toArray, List.nil_append, List.cons_append]
  gi_wp2_with (first
    | (refine ⟨trivial, ?_⟩; gi_at_call 31; refine (callsIn_wide.2 hno).mono ?_; rintro e w' ⟨rfl, hw'⟩; rw [hw']; clear hw')
    | (refine ⟨trivial, ?_⟩; gi_at_call 36; rw [← HW2.out]; refine (callsIn_wide.2 hea).mono ?_; rintro e w' ⟨rfl, hw'⟩; rw [hw']; clear hw')
    | (refine wpIn_label ?_)
    | fail)
  rw [← hw3]
  have hb3 : Below w2.heap.size w2 w3 := by rw [hw3]; exact (Below.refl _ _).alloc (Nat.le_refl _) _
  have hx3 : Boxed w3 w2.heap.size 30 (.pointer (some ⟨g, 0, none⟩)) := by rw [hw3]; exact heap_alloc_new _ _
  have hz2 : w2.heap.size = w.heap.size + 1 := by rw [HW2.out, World.size_alloc]
  have hz3 : w3.heap.size = w2.heap.size + 1 := by rw [hw3, World.size_alloc]
  have hN3 := hN2.below hb3
  have hx23 := (hb3.block _ hx2.lt).trans hx2
  have hb03 := below_then hb2 hb3 (Nat.le_refl _)
  clear hno hea hw3 hz3
  have hw2l : w.heap.size < w2.heap.size := by omega
  clear hz2
  refine range_rel (F := Fence.wide) (n := 5) rfl (by omega) (gf := 46) (lb := #[.pointer (some ⟨w2.heap.size, 0, none⟩)]) rfl trivial (enters_of Try.func46 (by kernel_rfl) rfl) (EachE B w2.heap.size g room (.slice A fl.length c) s d x fl) (fun z y W h => by obtain ⟨_, _, _, rfl, _⟩ := h; rfl) fl.zipIdx (fun _ W => EachSt B w2.heap.size g room (.slice A fl.length c) s d x fl W) EachCh
    (fun r o => each_hands 4 (by omega) B w2.heap.size g room _ s d x fl _ ?st (by omega) hbig) ?hch (fun pre W => AllI w.heap.size w.heap.size w (pre.map Prod.fst) W) (fun _ _ _ => False) ?h0 ?hIc ?hIp ?hSp ?hIxp (AllM B w2.heap.size g room A c s d x fl (.func (.func 46) #[] #[.pointer (some ⟨w2.heap.size, 0, none⟩)]) w) ?hMp ?assign ?body ?done ?stop
  case st =>
    have hb := ((Below.refl _ w3).alloc (Nat.le_refl _) o).alloc (show w3.heap.size ≤ (w3.alloc o).heap.size by simp) r
    exact ⟨(hb.block _ hx3.lt).trans hx3, hN3.below hb⟩
  case hch =>
    intro a b h k o hk _
    exact (h.block k (Array.getElem?_eq_some_iff.1 hk).1).trans hk
  case h0 =>
    intro o r
    have hb := ((Below.refl _ w3).alloc (Nat.le_refl _) o).alloc (show w3.heap.size ≤ (w3.alloc o).heap.size by simp) r
    exact ⟨⟨[], none, 0, (hb.block _ (lt_get hx23)).trans hx23, ⟨rfl, .inl ⟨rfl, rfl⟩⟩, rfl, fun y hy => by cases hy⟩, below_then hb03 hb (Nat.le_refl _)⟩
  case hIc =>
    rintro q X Y h hch
    exact h.below hch
  case hIp =>
    rintro q X k o o' h hk ho hc
    exact h.putObj (by have := hb03.size; omega) ho hc o'
  case hSp =>
    rintro q X k o o' ⟨h1, h2⟩ hk ho hc
    exact ⟨boxed_putObj h1 ho hc o', h2.putObj ho hc o'⟩
  case hIxp =>
    rintro cd q X k o o' h
    exact h.elim
  case hMp =>
    rintro q z a X k o o' ⟨h1, ⟨h5, h6⟩, A', c', W0, b7, h7, h8, h9, h10, h12⟩ hk ho hc
    exact ⟨h1.putObj (by have := hb03.size; omega) ho hc o', ⟨boxed_putObj h5 ho hc o', h6.putObj ho hc o'⟩, A', c', W0, b7, h7, h8,
      (World.putObj_heap_other (fun e => by subst e; rw [ho] at h9; cases h9; cases hc)).trans h9, h10, own_putObj h12 ho hc o'⟩
  case stop =>
    rintro D cd pre W rfl hpre h hD
    exact h.elim
  case done =>
    rintro D W rfl h hS hD
    obtain ⟨⟨G, uA, uc, h1, h2, h3, h4⟩, h5⟩ := h
    rw [List.zipIdx_map_fst] at h3
    have x3 := h1.cell
    gi_wp2_with fail
    refine ⟨by simp, .inl ⟨_, _, rfl, run_takeDeferred hD, ?_⟩⟩
    exact ⟨_, results_tmp rfl _ _ _, G, uA, uc, rfl, own_putObj h2 hD rfl _, h3, fun y hy => ⟨(h4 y hy).1, own_putObj (h4 y hy).2 hD rfl _⟩, below_putObj h5 hb03.size _⟩
  case assign =>
    rintro l pre z rest y W K hxs hI hSt ⟨A', c', W0, rfl, ⟨hN0, hbW0⟩, how⟩ hsz hK
    obtain ⟨W', hW'⟩ : ∃ W', W' = W.alloc (.cells #[.int .i64 z.1.f, .int .i64 z.1.t, .slice A' z.1.n c', .bool z.1.bad] 74) := ⟨_, rfl⟩
    have hbW : Below W.heap.size W W' := by rw [hW']; exact (Below.refl _ _).alloc (Nat.le_refl _) _
    have h7 : W'.heap[W.heap.size]? = some (.cells #[.int .i64 z.1.f, .int .i64 z.1.t, .slice A' z.1.n c', .bool z.1.bad] 74 (0, 0)) := by rw [hW']; exact heap_alloc_new _ _
    have hM := hK (allA g w.heap.size (.func (.func 46) #[] #[.pointer (some ⟨w2.heap.size, 0, none⟩)]) z.2 W.heap.size (.agg #[.int .i64 z.1.f, .int .i64 z.1.t, .slice A' z.1.n c', .bool z.1.bad])) W'
      ⟨hI.below hbW, ⟨(hbW.block _ hSt.1.lt).trans hSt.1, hSt.2.below hbW⟩, A', c', W0, W.heap.size, rfl, hI.b.size, h7, ⟨hN0, hbW0⟩, own_below how hbW⟩
      (fun k o hk _ => (hbW.block k (Array.getElem?_eq_some_iff.1 hk).1).trans hk)
    unfold allA at hM
    rw [hW'] at hM
    clear hK h7 hbW hW' hI hSt how hN0
    gi_wp2_with fail
    exact hM
  case body =>
    rintro l pre z rest a' W hxs ⟨hI, hSt, A', c', W0, b7, rfl, h8, h9, ⟨h10, hbW0⟩, h12⟩ hsz
    obtain ⟨hp, rfl⟩ := zip_at hxs
    obtain ⟨⟨G, uA, uc, g1, g2, g3, g4⟩, g5⟩ := hI
    unfold allA
    have x3 := g1.cell
    have f3 := g1.frozen
    have hpre : (pre.map Prod.fst).length = pre.length := by simp
    have hGl : G.length ≤ 5000 := by
      have := congrArg List.length g3
      simp only [List.length_map] at this
      omega
    have hyl := (hN.raw _ (List.getElem_mem hp)).1
    generalize fl[pre.length] = y at *
    obtain ⟨yf, yt, yA, yn, yc, yl, yb⟩ := y
    simp only at h9 h12 hyl
    have c0 : W.cell? ⟨b7, 0, none⟩ = some (.int .i64 yf) := by rw [cell_of_row _ _ _ _ _ _ h9]; rfl
    have c1 : W.cell? ⟨b7, 1, none⟩ = some (.int .i64 yt) := by rw [cell_of_row _ _ _ _ _ _ h9]; rfl
    have c2 : W.cell? ⟨b7, 2, none⟩ = some (.slice A' yn c') := by rw [cell_of_row _ _ _ _ _ _ h9]; rfl
    obtain ⟨w5, hw5⟩ : ∃ w5, w5 = W.alloc (.cells #[.int .i64 yf, .int .i64 yt, .slice A' yn c'] 38) := ⟨_, rfl⟩
    have hb5 : Below W.heap.size W w5 := by rw [hw5]; exact (Below.refl _ _).alloc (Nat.le_refl _) _
    have h5 : w5.heap[W.heap.size]? = some (.cells #[.int .i64 yf, .int .i64 yt, .slice A' yn c'] 38 (0, 0)) := by rw [hw5]; exact heap_alloc_new _ _
    have hu5 := own_below g2 hb5
    have hg5 := below_then g5 hb5 (Nat.le_refl _)
    have HW5 := Lib.hid hw5
    have hbx5 : Boxed w5 w.heap.size 35 (.slice uA G.length uc) := (hb5.block _ g1.lt).trans g1
    have hall : ∀ w6, w5.grownBy w6 (Value.slice uA G.length uc).ownBlock → Boxed w6 w.heap.size 35 (.slice uA G.length uc) := fun w6 hg6 => (hg6.block _ hbx5.lt (Ne.symm (own_ne hu5 hbx5 (by decide)))).trans hbx5
    have HA := Lib.hid hall
    clear hw5 hxs hN hN2 hN3 hrd hbig g2 hall
    gi_wp2_with (first
      | (gi_at_builtin; go_loud (rw [← HW5.out]; refine wpListIn_app2 elt38 rfl (.tmp 12) (.tmp 15) rfl w.heap.size (.slice uA G.length uc) G.length _ rfl hu5 (some ⟨W.heap.size, 0, none⟩) 1 1 [.int .i64 yf, .int .i64 yt, .slice A' yn c'] rfl rfl (rd_lits h5) (by simp [Value.oneCell']) (by unfold maxLen; omega) (by omega) hg5.size ?_; intro v' w6 ho6 hg6 hn6; obtain ⟨vA, vc, rfl, _⟩ := RdC.of_own ho6; have x6 := Boxed.cell (HA.out w6 hg6); have f6 := Boxed.frozen (HA.out w6 hg6)))
      | fail)
    have hb6 := HA.out w6 hg6
    have hbn : Boxed (w6.setCell ⟨w.heap.size, 0, none⟩ (.slice vA (G.length + 1) vc)) w.heap.size 35 (.slice vA (G.length + 1) vc) := heap_setCell_same _ _ 0 _ _ _ hb6
    have hoth : ∀ k, k ≠ w.heap.size → (w6.setCell ⟨w.heap.size, 0, none⟩ (.slice vA (G.length + 1) vc)).heap[k]? = w6.heap[k]? := fun k hk => heap_setCell_other _ _ _ _ hk
    have hsize : (w6.setCell ⟨w.heap.size, 0, none⟩ (.slice vA (G.length + 1) vc)).heap.size = w6.heap.size := by simp
    have hos : (w6.setCell ⟨w.heap.size, 0, none⟩ (.slice vA (G.length + 1) vc)).os = w6.os ∧ (w6.setCell ⟨w.heap.size, 0, none⟩ (.slice vA (G.length + 1) vc)).tape = w6.tape ∧ (w6.setCell ⟨w.heap.size, 0, none⟩ (.slice vA (G.length + 1) vc)).output = w6.output := ⟨rfl, rfl, rfl⟩
    have hkeep := (KeepsOthers.setCell w6 ⟨w.heap.size, 0, none⟩ (.slice vA (G.length + 1) vc))
    generalize w6.setCell ⟨w.heap.size, 0, none⟩ (.slice vA (G.length + 1) vc) = w7 at *
    have hGa : (G ++ [(⟨yf, yt, A', yn, c', yl, yb⟩ : Fl)]).length = G.length + 1 := by simp
    have hg6' := hg5.grown hg6 hg5.size fun b hb => (hu5.lt b hb).1
    have hraw7 : ∀ (B' n' : Nat) (v' : Value) (l' : List UInt8), W.ownsRow B' 5 1 v' n' (u8v l') → w7.ownsRow B' 5 1 v' n' (u8v l') := fun B' n' v' l' h => by
      have h6 := own_grown (own_below h hb5) hu5 (by decide) hg6
      exact own_of_block h6 fun k hk => hoth k fun e => own_ne h6 hb6 (by decide) (by rw [hk, e])
    refine ⟨?_, ?_, ⟨⟨G ++ [⟨yf, yt, A', yn, c', yl, yb⟩], vA, vc, by rw [hGa]; exact hbn, ?_, ?_, ?_⟩, ?_⟩⟩
    · exact ⟨by rw [hsize]; exact Nat.le_trans hb5.size hg6.size, fun k o hk hc => hkeep.same k o ((hg6.block k (Nat.lt_of_lt_of_le (Array.getElem?_eq_some_iff.1 hk).1 hb5.size) (fun e => by have := own_cells hu5 e.symm ((hb5.block k (Array.getElem?_eq_some_iff.1 hk).1).trans hk); rw [hc] at this; cases this)).trans ((hb5.block k (Array.getElem?_eq_some_iff.1 hk).1).trans hk)) hc⟩
    · have hS5 : Boxed w5 w2.heap.size 30 (.pointer (some ⟨g, 0, none⟩)) := (hb5.block _ hSt.1.lt).trans hSt.1
      have hS6 : Boxed w6 w2.heap.size 30 (.pointer (some ⟨g, 0, none⟩)) := (hg6.block _ hS5.lt (Ne.symm (own_ne hu5 hS5 (by decide)))).trans hS5
      exact ⟨(hoth _ (by omega)).trans hS6, ((hSt.2.below hb5).grown hu5 hg6).aside hb6 (by decide) (by decide) (by decide) hoth⟩
    · rw [hGa, apC_append]
      exact own_of_block ho6 fun k hk => hoth k fun e => own_ne ho6 hb6 (by decide) (by rw [hk, e])
    · rw [List.map_append, List.map_append, List.map_append, g3]; rfl
    · intro z hz
      rcases List.mem_append.1 hz with hz | hz
      · exact ⟨(g4 z hz).1, hraw7 _ _ _ _ (g4 z hz).2⟩
      · obtain rfl := List.mem_singleton.1 hz
        exact ⟨hyl, own_mono (hraw7 _ _ _ _ h12) (by omega)⟩
    · exact ⟨hos.1.trans hg6'.os, hos.2.1.trans hg6'.tape, hos.2.2.trans hg6'.output, by rw [hsize]; exact hg6'.size, fun b hb => (hoth b (by omega)).trans (hg6'.block b hb)⟩
end Go.Proofs.Ytfojlmnlolnilaa
