/- The law NetKeeps, walked. -/
import Derived.Test.YtfojlmnlolnilaaNetKa
namespace Go.Proofs.Ytfojlmnlolnilaa
open Go.RowKit
attribute [local go_sem] Oper.semAt_some

theorem OpRow.all {W : World} {a : Option Addr} {len cap : Nat} {L : List OpV} (h : OpRow W a len cap L) (k : Nat) (hk : k < L.length) :
    ∃ ad, a = some ad ∧ W.cell? (ad.add (k * 8)) = some (.int .i64 (L[k]).k) ∧ W.cell? ⟨(ad.add (k * 8)).block, (ad.add (k * 8)).off + 1, none⟩ = some (.int .i64 (L[k]).m) ∧ W.cell? ⟨(ad.add (k * 8)).block, (ad.add (k * 8)).off + 2, none⟩ = some (.int .i64 (L[k]).ff) ∧ W.cell? ⟨(ad.add (k * 8)).block, (ad.add (k * 8)).off + 3, none⟩ = some (.int .i64 (L[k]).ft) ∧ W.cell? ⟨(ad.add (k * 8)).block, (ad.add (k * 8)).off + 4, none⟩ = some (.slice (L[k]).A (L[k]).len (L[k]).cap)
      ∧ W.cell? ⟨(ad.add (k * 8)).block, (ad.add (k * 8)).off + 5, none⟩ = some (.bool (L[k]).cut) ∧ W.cell? ⟨(ad.add (k * 8)).block, (ad.add (k * 8)).off + 6, none⟩ = some (.int .i64 (L[k]).sx) ∧ W.cell? ⟨(ad.add (k * 8)).block, (ad.add (k * 8)).off + 7, none⟩ = some (.int .u32 ((L[k]).sm : Int)) := by
  obtain ⟨ad, rfl, q0, qr⟩ := h.cell k hk
  have key : ∀ r, r < 7 → (L[k]).cs[r + 1]? = W.cell? ⟨(ad.add (k * 8)).block, (ad.add (k * 8)).off + (r + 1), none⟩ := fun r hr => (qr r).resolve_right (by omega)
  exact ⟨ad, rfl, q0, (key 0 (by omega)).symm, (key 1 (by omega)).symm, (key 2 (by omega)).symm, (key 3 (by omega)).symm, (key 4 (by omega)).symm, (key 5 (by omega)).symm, (key 6 (by omega)).symm⟩
/-- A box of an operation, as it lies. -/
def OpBox (W : World) (b : Nat) (k m ff ft : Int) (A : Option Addr) (n c : Nat) (cut : Bool) (sx : Int) (sm : Nat) : Prop := W.heap[b]? = some (.cells #[.int .i64 k, .int .i64 m, .int .i64 ff, .int .i64 ft, .slice A n c, .bool cut, .int .i64 sx, .int .u32 (sm : Int)] 40 (0, 0))
section
variable {W : World} {b : Nat} {k m ff ft : Int} {A : Option Addr} {n c : Nat} {cut : Bool} {sx : Int} {sm : Nat}
theorem OpBox.c0 (h : OpBox W b k m ff ft A n c cut sx sm) : W.cell? ⟨b, 0, none⟩ = some (.int .i64 k) := by rw [cell_of_row _ _ _ _ _ _ h]; rfl
theorem OpBox.c1 (h : OpBox W b k m ff ft A n c cut sx sm) : W.cell? ⟨b, 1, none⟩ = some (.int .i64 m) := by rw [cell_of_row _ _ _ _ _ _ h]; rfl
theorem OpBox.c2 (h : OpBox W b k m ff ft A n c cut sx sm) : W.cell? ⟨b, 2, none⟩ = some (.int .i64 ff) := by rw [cell_of_row _ _ _ _ _ _ h]; rfl
theorem OpBox.c3 (h : OpBox W b k m ff ft A n c cut sx sm) : W.cell? ⟨b, 3, none⟩ = some (.int .i64 ft) := by rw [cell_of_row _ _ _ _ _ _ h]; rfl
theorem OpBox.c4 (h : OpBox W b k m ff ft A n c cut sx sm) : W.cell? ⟨b, 4, none⟩ = some (.slice A n c) := by rw [cell_of_row _ _ _ _ _ _ h]; rfl
theorem OpBox.net {W' : World} {B g : Nat} {room : Int} {nv : Value} {s d x : Int} {fl : List Fl} (h : OpBox W b k m ff ft A n c cut sx sm) (hN : NetAt B g room nv s d x fl W) (hk : Kept (fun k => k = g) W W') : OpBox W' b k m ff ft A n c cut sx sm :=
  (hk.block b (lt_get h) fun e => by
    subst e
    have h1 := hN.c
    unfold NetC at h1
    unfold OpBox at h
    rw [h] at h1
    cases h1).trans h
end
theorem deliver_at (B g : Nat) (room : Int) (v : Value) (s d x : Int) (fl : List Fl) (w : World) (hN : NetAt B g room v s d x fl w) (hBw : B ≤ w.heap.size) (hfl : fl.length ≤ 5000) (hr1 : 1 ≤ room) (hx1 : 0 ≤ d) (hx2 : d ≤ 1000000) (i : Nat) (hi : i < fl.length) (y : Fl) (hy : fl[i] = y) :
    Calls Try.prog 17 #[.pointer (some ⟨g, 0, none⟩), .int .i64 (i : Int)] w fun e w' => e = .returned (.tuple #[.agg #[.int .i64 y.f, .int .i64 y.t, .slice y.A y.n y.c], .int .i64 0]) ∧ ∃ A2 c2, NetAt B g room (.slice A2 (fl.length - 1) c2) s (d + 1) x (fl.eraseIdx i) w' ∧ Kept (fun k => k = g) w w' := by
  subst hy
  exact deliver_ok B g room v s d x fl w hN hBw hfl hr1 hx1 hx2 i hi
theorem double_at (B g : Nat) (room : Int) (v : Value) (s d x : Int) (fl : List Fl) (w : World) (hN : NetAt B g room v s d x fl w) (hBw : B ≤ w.heap.size) (hr1 : 1 ≤ room) (hr2 : room ≤ 4096) (hlt : (fl.length : Int) < room) (hbig : ∀ y ∈ fl, y.n ≤ 100000000) (i : Nat) (hi : i < fl.length) (y : Fl) (hy : fl[i] = y) :
    Calls Try.prog 15 #[.pointer (some ⟨g, 0, none⟩), .int .i64 (i : Int)] w fun e w' => e = .returned (.int .i64 0) ∧ ∃ A2 c2 A' c', NetAt B g room (.slice A2 (fl.length + 1) c2) s d x (fl ++ [⟨y.f, y.t, A', y.n, c', y.l, y.bad⟩]) w' ∧ Kept (fun k => k = g) w w' := by
  subst hy
  exact double_ok B g room v s d x fl w hN hBw hr1 hr2 hlt hbig i hi
set_option maxRecDepth 100000 in
set_option maxHeartbeats 32000000 in
theorem netKeeps_walk (room : Int) (a : Option Addr) (len cap : Nat) (L : List OpV) (w : World) (hroom : -9223372036854775808 ≤ room ∧ room ≤ 9223372036854775807) (hR : OpRow w a len cap L) :
    Calls Try.prog 5 #[.int .i64 room, .slice a len cap] w fun e w' => e = .returned (.bool true) ∧ Below w.heap.size w w' := by
  obtain ⟨hl, hlc, hcm, hok, hcell⟩ := id hR
  have hli : (len : Int) ≤ 9223372036854775807 := by unfold maxLen at hcm; omega
  by_cases hrm : room < 1 ∨ 4096 < room
  · have hnew : ∀ W : World, Calls Try.prog 11 #[.int .i64 room] W fun e w' => e = .returned (.tuple #[.pointer none, .int .i64 280]) ∧ w' = W := fun W => by
      rcases hrm with h | h
      · exact new_low room h W
      · exact new_high room h W
    clear hok hcell
    go_enter Try.func5, Try.ntmps5
    go_wp2_with fail
    refine (alive_any w).mono ?_
    rintro e w1 ⟨rfl, hb1⟩
    go_wp2_with fail
    refine (hnew w1).mono ?_
    rintro e w' ⟨rfl, hw'⟩
    rw [hw']
    clear hw' hnew
    go_wp2_with fail
    refine (great_any a len cap L w1 (hR.below hb1)).mono ?_
    rintro e w3 ⟨rfl, (⟨rfl, h150, h300⟩ | rfl)⟩
    all_goals
      go_wp2_with fail
      go_ret
      exact ⟨rfl, hb1⟩
  have hr1 : 1 ≤ room := by omega
  have hr2 : room ≤ 4096 := by omega
  clear hrm
  go_enter Try.func5, Try.ntmps5
  go_wp2_with fail
  refine (alive_any w).mono ?_
  rintro e w1 ⟨rfl, hb1⟩
  obtain ⟨w2, hw2⟩ : ∃ w2, w2 = w1.alloc (.cells #[.int .i64 room, .slice none 0 0, .int .i64 0, .int .i64 0, .int .i64 0] 70) := ⟨_, rfl⟩
  have hb12 : Below w1.heap.size w1 w2 := by rw [hw2]; exact (Below.refl _ _).alloc (Nat.le_refl _) _
  have hc2 : NetC w1.heap.size room (.slice none 0 0) 0 0 0 w2 := by rw [hw2]; exact heap_alloc_new _ _
  have hN2 := NetAt.fresh w.heap.size w1.heap.size room w2 hb1.size hc2
  have hnew := new_ok room hr1 hr2 w1
  rw [← hw2] at hnew
  have hb2 := below_then hb1 hb12 (Nat.le_refl _)
  clear hw2 hc2
  generalize w1.heap.size = g at *
  go_wp2_with fail
  refine hnew.mono ?_
  rintro e w' ⟨rfl, hw'⟩
  rw [hw']
  clear hw' hnew
  go_wp2_with fail
  refine (great_any a len cap L w2 (hR.below hb2)).mono ?_
  rintro e w3 ⟨rfl, (⟨rfl, h150, h300⟩ | rfl)⟩
  case inr =>
    go_wp2_with fail
    go_ret
    exact ⟨rfl, hb2⟩
  have HCELL := Lib.hid hcell
  have HOK := Lib.hid hok
  have H300 := Lib.hid h300
  have hgw := hN2.hB
  have hlen150 : len ≤ 150 := by omega
  clear h150 h300 hok hcell
  go_wp2_with fail
  go_loopw [8, 9, 10, 11, 12, 44] (fun vi vo vs vd vx j wr => ∃ (k : Nat) (In Out : List Fl) (iA : Option Addr) (ic : Nat) (oA : Option Addr) (oc : Nat) (fl : List Fl) (A2 : Option Addr) (c2 s db d x : Nat), k ≤ len ∧ j = .int .i64 (k : Int) ∧ vi = .slice iA In.length ic ∧ vo = .slice oA Out.length oc ∧ vs = .int .i64 (s : Int) ∧ vd = .int .i64 (db : Int) ∧ vx = .int .i64 (x : Int) ∧ KpR w In Out iA ic oA oc wr ∧ NetAt w.heap.size g room (.slice A2 fl.length c2) s d x fl wr ∧ KpN room k In Out fl s db d x) (fun _ _ _ _ _ j _ => len - (intOf j).toNat)
  case atStart => exact ⟨0, [], [], none, 0, none, 0, [], none, 0, 0, 0, 0, 0, by omega, rfl, rfl, rfl, rfl, rfl, rfl, ⟨⟨rfl, .inl ⟨rfl, rfl⟩⟩, ⟨rfl, .inl ⟨rfl, rfl⟩⟩, (fun b hb => by cases hb), (fun y hy => by cases hy), (fun y hy => by cases hy), hb2⟩, hN2, ⟨fun f => rfl, rfl, rfl, by simp; omega, by omega, by omega, by omega, by omega, by simp, fun y hy => by cases hy⟩⟩
  case round =>
    obtain ⟨k, In, Out, iA, ic, oA, oc, fl, A2, c2, s, db, d, x, hk, rfl, rfl, rfl, rfl, rfl, rfl, hKR, hN, hKN⟩ := hrel
    clear hN2 hb12 hb2 hb1
    by_cases hlt : k < len
    · obtain ⟨ad, rfl, q0, q1, q2, q3, q4, q5, q6, q7⟩ := (hR.below hKR.bel).all k (by omega)
      have hok := (HOK.out _ (List.getElem_mem (show k < L.length by omega))).2.2.1
      have h3 := H300.out _ (List.getElem_mem (show k < L.length by omega))
      have hki : (k : Int) < (len : Int) := by omega
      have hwk : IntKind.i64.wrap ((k : Int) + 1) = (k : Int) + 1 := IntWalk.i64_in _ (by omega)
      have hfl5 : fl.length ≤ 5000 := by have := hKN.le; omega
      have hk150 : k ≤ 150 := by omega
      generalize hp : ad.add (k * 8) = p at *
      generalize ho : L[k] = o at *
      obtain ⟨kk, mm, ff, ft, oA', oln, ocp, ol, ocut, osx, osm⟩ := o
      simp only at hok h3 q0 q1 q2 q3 q4 q5 q6 q7
      obtain ⟨hol, hoc, hocm, horr⟩ := hok
      have hyKp : ∀ W, Kp w W ⟨ff, ft, oA', oln, ocp, ol, false⟩ := fun W => ⟨hol, .inl horr⟩
      have hRg : ∀ ad2, oA' = some ad2 → ol ≠ [] → ad2.block ≠ g := fun ad2 e hne => by
        subst e
        cases ol with
        | nil => exact absurd rfl hne
        | cons b t =>
          obtain ⟨ad3, e3, hc3⟩ := horr 0 _ rfl
          cases e3
          have := World.block_lt_of_cell? w _ hc3
          rw [addr_add_block] at this
          omega
      obtain ⟨w4, hw4⟩ : ∃ w4, w4 = wr.alloc (.cells #[.int .i64 kk, .int .i64 mm, .int .i64 ff, .int .i64 ft, .slice oA' oln ocp, .bool ocut, .int .i64 osx, .int .u32 (osm : Int)] 40) := ⟨_, rfl⟩
      have hb34 : Below wr.heap.size wr w4 := by rw [hw4]; exact (Below.refl _ _).alloc (Nat.le_refl _) _
      have hbx4 : OpBox w4 wr.heap.size kk mm ff ft oA' oln ocp ocut osx osm := by rw [hw4]; exact heap_alloc_new _ _
      have hKR4 := hKR.below hb34
      have hN4 := hN.below hb34
      have hbigN : ∀ y ∈ fl, y.n ≤ 100000000 := fun y hy => by have := hKN.big y hy; rw [(hN.raw y hy).1] at this; omega
      have hall := all_any w.heap.size g room _ s d x fl w4 hN4 hKR4.bel.size hr1 hfl5 hbigN
      have HW4 := Lib.hid hw4
      clear hw4 hKR hN hb34
      go_upto_region 10 with fail
      rw [← HW4.out]
      go_wp2_with fail
      refine hall.mono ?_
      rintro e w5 ⟨G, gA, gc, rfl, hG, hGk, hGr, hb45⟩
      have hKR5 := hKR4.below hb45
      have hN5 := hN4.below hb45
      have hbx5 : OpBox w5 wr.heap.size kk mm ff ft oA' oln ocp ocut osx osm := (hb45.block _ (lt_get hbx4)).trans hbx4
      have hG5 := own_mono hG hKR4.bel.size
      have hGr5 := fun y hy => And.intro (hGr y hy).1 (own_mono (hGr y hy).2 hKR4.bel.size)
      have hGl : G.length = fl.length := by have := congrArg List.length hGk; simpa using this
      have hb14 : wr.heap.size < w5.heap.size := lt_get hbx5
      generalize wr.heap.size = b14 at *
      clear hall hG hGr hKR4 hN4 hbx4 hb45 HW4 q0 q1 q2 q3 q4 q5 q6 q7 hp ho HOK HCELL H300 hR
      have c0 := hbx5.c0
      have c1 := hbx5.c1
      have c2' := hbx5.c2
      have c3 := hbx5.c3
      have c4 := hbx5.c4
      have hws : IntKind.i64.wrap ((s : Int) + 1) = (s : Int) + 1 := IntWalk.i64_in _ (by have := hKN.hs; omega)
      have hwx : IntKind.i64.wrap ((x : Int) + 1) = (x : Int) + 1 := IntWalk.i64_in _ (by have := hKN.hx; omega)
      have hwd : IntKind.i64.wrap ((db : Int) + 1) = (db : Int) + 1 := IntWalk.i64_in _ (by have := hKN.hdb; omega)
      have hInl : In.length ≤ 150 := by have := hKN.hIn; omega
      have hOutl : Out.length ≤ 150 := by have := hKN.hIn; have := hKN.len; omega
      have hsK := hKN.hs
      have hdK := hKN.hd
      have hxK := hKN.hx
      go_upto_region 12 with fail
      by_cases hk0 : kk = 0
      · subst hk0
        by_cases hroomy : (fl.length : Int) < room
        · have hsend := send_ok w.heap.size g room _ s d x fl w5 hN5 hKR5.bel.size (by omega) (by omega) hr1 hr2 hroomy ff ft oA' oln ocp ol (by omega) hol (horr.below hKR5.bel) hRg
          go_upto_region 15 with (go_at_call 13; refine hsend.mono ?_; rintro e w6 ⟨rfl, A6, c6, A6', c6', hN6, hnew6, hk6⟩)
          have hKR6 := hKR5.net hN5 hgw hk6
          have hbx6 := hbx5.net hN5 hk6
          clear c0 c1 c2' c3 c4 hsend
          have c2' := hbx6.c2
          have c3 := hbx6.c3
          have c4 := hbx6.c4
          obtain ⟨wb, hwb⟩ : ∃ wb, wb = w6.alloc (.cells #[.int .i64 ff, .int .i64 ft, .slice oA' oln ocp] 38) := ⟨_, rfl⟩
          have hbw : Below w6.heap.size w6 wb := by rw [hwb]; exact (Below.refl _ _).alloc (Nat.le_refl _) _
          have hbb : wb.heap[w6.heap.size]? = some (.cells #[.int .i64 ff, .int .i64 ft, .slice oA' oln ocp] 38 (0, 0)) := by rw [hwb]; exact heap_alloc_new _ _
          have hKRb := (hKR6).below hbw
          have hNb := (hN6).below hbw
          have HWb := Lib.hid hwb
          clear hwb
          clear hG5 hGr5 hRg
          go_wp2_with (first
            | (at_builtin; go_loud (rw [← HWb.out]; refine wpList_app2 elt38 rfl (.tmp 61) (.tmp 64) rfl w.heap.size (.slice iA In.length ic) In.length _ rfl hKRb.inR (some ⟨w6.heap.size, 0, none⟩) 1 1 [.int .i64 ff, .int .i64 ft, .slice oA' oln ocp] rfl rfl (rd_lits hbb) (by simp [Value.oneCell']) (by unfold maxLen; omega) (by omega) hKRb.bel.size ?_; intro v' wz hoz hgz hnz; obtain ⟨vA, vc, rfl, _⟩ := RdC.of_own hoz))
            | fail)
          have hlz : (fl ++ [(⟨ff, ft, A6', oln, c6', ol, false⟩ : Fl)]).length = fl.length + 1 := by simp
          have hNz := hNb.grown hKRb.inR hgz
          rw [← hlz] at hNz
          have hKRz := hKRb.addIn (y := ⟨ff, ft, oA', oln, ocp, ol, false⟩) (hyKp wb) hoz hgz hnz
          exact ⟨⟨k + 1, In ++ [⟨ff, ft, oA', oln, ocp, ol, false⟩], Out, vA, vc, oA, oc, fl ++ [⟨ff, ft, A6', oln, c6', ol, false⟩], A6, c6, s + 1, db, d, x, by omega, rfl, by simp, rfl, rfl, rfl, rfl, by simpa using hKRz, hNz, hKN.sent _ _ rfl hroomy (by show ol.length ≤ 300; omega)⟩, by simp [intOf]; omega⟩
        · have hsend := send_full w.heap.size g room _ s d x fl w5 hN5 hKR5.bel.size (by omega) (by omega) (by omega) (by omega) hr1 hr2 (by omega) ff ft oA' oln ocp
          go_wp2_with fail
          refine hsend.mono ?_
          rintro e w6 ⟨rfl, hN6, hk6⟩
          have hKR6 := hKR5.net hN5 hgw hk6
          clear c0 c1 c2' c3 c4 hsend hG5 hGr5 hRg
          go_wp2_with fail
          exact ⟨⟨k + 1, In, Out, iA, ic, oA, oc, fl, A2, c2, s + 1, db, d, x + 1, by omega, rfl, rfl, rfl, rfl, rfl, rfl, hKR6, hN6, hKN.full⟩, by simp [intOf]; omega⟩
      by_cases hk1 : kk = 1
      · subst hk1
        by_cases hin : 0 ≤ mm ∧ mm < (fl.length : Int)
        · obtain ⟨i, rfl⟩ : ∃ i : Nat, mm = (i : Int) := ⟨mm.toNat, by omega⟩
          have hi : i < fl.length := by omega
          obtain ⟨y, hy⟩ : ∃ y, fl[i] = y := ⟨_, rfl⟩
          have hyr := hN5.raw _ (List.getElem_mem hi)
          have hdel := deliver_at w.heap.size g room _ s d x fl w5 hN5 hKR5.bel.size hfl5 hr1 (by omega) (by omega) i hi y hy
          rw [hy] at hyr
          go_upto_region 18 with fail
          go_wp2_with fail
          refine hdel.mono ?_
          rintro e w6 ⟨rfl, A6, c6, hN6, hk6⟩
          have hKR6 := hKR5.net hN5 hgw hk6
          have hyK : Kp w w6 y := ⟨hyr.1, .inr (own_net hyr.2 hN5 (by decide) hk6)⟩
          obtain ⟨w7, hw7⟩ : ∃ w7, w7 = w6.alloc (.cells #[.int .i64 y.f, .int .i64 y.t, .slice y.A y.n y.c] 38) := ⟨_, rfl⟩
          have hb67 : Below w6.heap.size w6 w7 := by rw [hw7]; exact (Below.refl _ _).alloc (Nat.le_refl _) _
          have h7 : w7.heap[w6.heap.size]? = some (.cells #[.int .i64 y.f, .int .i64 y.t, .slice y.A y.n y.c] 38 (0, 0)) := by rw [hw7]; exact heap_alloc_new _ _
          have x0 : w7.cell? ⟨w6.heap.size, 0, none⟩ = some (.int .i64 y.f) := by rw [cell_of_row _ _ _ _ _ _ h7]; rfl
          have x1 : w7.cell? ⟨w6.heap.size, 1, none⟩ = some (.int .i64 y.t) := by rw [cell_of_row _ _ _ _ _ _ h7]; rfl
          have x2 : w7.cell? ⟨w6.heap.size, 2, none⟩ = some (.slice y.A y.n y.c) := by rw [cell_of_row _ _ _ _ _ _ h7]; rfl
          have HW7 := Lib.hid hw7
          clear hw7 c0 c1 c2' c3 c4 hdel hRg hG5 hGr5 hyKp
          obtain ⟨wb, hwb⟩ : ∃ wb, wb = w7.alloc (.cells #[.int .i64 y.f, .int .i64 y.t, .slice y.A y.n y.c] 38) := ⟨_, rfl⟩
          have hbw : Below w7.heap.size w7 wb := by rw [hwb]; exact (Below.refl _ _).alloc (Nat.le_refl _) _
          have hbb : wb.heap[w7.heap.size]? = some (.cells #[.int .i64 y.f, .int .i64 y.t, .slice y.A y.n y.c] 38 (0, 0)) := by rw [hwb]; exact heap_alloc_new _ _
          have hKRb := (hKR6.below hb67).below hbw
          have hNb := (hN6.below hb67).below hbw
          have HWb := Lib.hid hwb
          clear hwb
          go_upto_region 19 with fail
          rw [← HW7.out]
          go_wp2_with (first
            | (at_builtin; go_loud (rw [← HWb.out]; refine wpList_app2 elt38 rfl (.tmp 79) (.tmp 81) rfl w.heap.size (.slice oA Out.length oc) Out.length _ rfl hKRb.outR (some ⟨w7.heap.size, 0, none⟩) 1 1 [.int .i64 y.f, .int .i64 y.t, .slice y.A y.n y.c] rfl rfl (rd_lits hbb) (by simp [Value.oneCell']) (by unfold maxLen; omega) (by omega) hKRb.bel.size ?_; intro v' wz hoz hgz hnz; obtain ⟨vA, vc, rfl, _⟩ := RdC.of_own hoz))
            | fail)
          have hlz : (fl.eraseIdx i).length = fl.length - 1 := List.length_eraseIdx_of_lt hi
          have hNz := hNb.grown hKRb.outR hgz
          rw [← hlz] at hNz
          have hyKb : Kp w wb y := ⟨hyK.1, hyK.2.imp id fun h => own_below (own_below h hb67) hbw⟩
          have hKRz := hKRb.addOut (y := y) hyKb hoz hgz hnz
          exact ⟨⟨k + 1, In, Out ++ [y], iA, ic, vA, vc, fl.eraseIdx i, A6, c6, s, db, d + 1, x, by omega, rfl, rfl, by simp, rfl, rfl, rfl, by simpa using hKRz, hNz, hKN.out i hi y (by rw [hy]) (d + 1) x (by omega) (by omega) (by omega)⟩, by simp [intOf]; omega⟩
        · have hdel := deliver_bad g room A2 fl.length c2 s d x w5 hN5.c hr1 mm (by omega) (by omega)
          go_upto_region 18 with fail
          go_wp2_with fail
          refine hdel.mono ?_
          rintro e w6 ⟨rfl, hb56⟩
          have hb67 : Below w6.heap.size w6 (w6.alloc (.cells #[.int .i64 0, .int .i64 0, .slice none 0 0] 38)) := (Below.refl _ _).alloc (Nat.le_refl _) _
          have hb57 := below_then hb56 hb67 (Nat.le_refl _)
          have hKR7 := hKR5.below hb57
          have hN7 := hN5.below hb57
          clear c0 c1 c2' c3 c4 hdel hRg hG5 hGr5 hyKp hKR5 hN5 hbx5
          go_wp2_with fail
          exact ⟨⟨k + 1, In, Out, iA, ic, oA, oc, fl, A2, c2, s, db, d, x, by omega, rfl, rfl, rfl, rfl, rfl, rfl, hKR7, hN7, hKN.skip⟩, by simp [intOf]; omega⟩
      by_cases hk2 : kk = 2
      · subst hk2
        by_cases hin : 0 ≤ mm ∧ mm < (fl.length : Int)
        · obtain ⟨i, rfl⟩ : ∃ i : Nat, mm = (i : Int) := ⟨mm.toNat, by omega⟩
          have hi : i < fl.length := by omega
          have hiG : i < G.length := by omega
          have hlos := lose_ok w.heap.size g room _ s d x fl w5 hN5 hKR5.bel.size hfl5 hr1 (by omega) (by omega) i hi
          have hyk : (G[i]).key = (fl[i]).key := by
            have := congrArg (fun l : List (Int × Int × List UInt8) => l[i]?) hGk
            simp only [List.getElem?_map, List.getElem?_eq_getElem hiG, List.getElem?_eq_getElem hi, Option.map_some, Option.some.injEq] at this
            exact this
          have hyr := hGr5 _ (List.getElem_mem hiG)
          go_upto_region 22 with fail
          go_wp2_with fail
          refine hlos.mono ?_
          rintro e w6 ⟨rfl, A6, c6, hN6, hk6⟩
          have hKR6 := hKR5.net hN5 hgw hk6
          have hbx6 := hbx5.net hN5 hk6
          have hG6 := own_net hG5 hN5 (by decide) hk6
          obtain ⟨ga, rfl, x0, x1, x2⟩ := (show ApRow w6 gA G.length G from ⟨rfl, rd_fls hG6 rfl, fun z hz => ⟨(hGr5 z hz).1, rd_of_own (own_net (hGr5 z hz).2 hN5 (by decide) hk6) rfl⟩⟩).cell i hiG
          obtain ⟨y, hy⟩ : ∃ y, G[i] = y := ⟨_, rfl⟩
          rw [hy] at hyk hyr x0 x1 x2
          have hyK : Kp w w6 y := ⟨hyr.1, .inr (own_net hyr.2 hN5 (by decide) hk6)⟩
          generalize hp : ga.add (i * 3) = p at *
          have hiGi : (i : Int) < (G.length : Int) := by omega
          have hi0 : ¬ (i : Int) < 0 := by omega
          clear c0 c1 c2' c3 c4 hlos hRg hG5 hGr5 hyKp
          have c1 := hbx6.c1
          obtain ⟨wb, hwb⟩ : ∃ wb, wb = w6.alloc (.cells #[.int .i64 y.f, .int .i64 y.t, .slice y.A y.n y.c] 38) := ⟨_, rfl⟩
          have hbw : Below w6.heap.size w6 wb := by rw [hwb]; exact (Below.refl _ _).alloc (Nat.le_refl _) _
          have hbb : wb.heap[w6.heap.size]? = some (.cells #[.int .i64 y.f, .int .i64 y.t, .slice y.A y.n y.c] 38 (0, 0)) := by rw [hwb]; exact heap_alloc_new _ _
          have hKRb := (hKR6).below hbw
          have hNb := (hN6).below hbw
          have HWb := Lib.hid hwb
          clear hwb
          go_wp2_with (first
            | (at_builtin; go_loud (rw [← HWb.out]; refine wpList_app2 elt38 rfl (.tmp 90) (.tmp 96) rfl w.heap.size (.slice oA Out.length oc) Out.length _ rfl hKRb.outR (some ⟨w6.heap.size, 0, none⟩) 1 1 [.int .i64 y.f, .int .i64 y.t, .slice y.A y.n y.c] rfl rfl (rd_lits hbb) (by simp [Value.oneCell']) (by unfold maxLen; omega) (by omega) hKRb.bel.size ?_; intro v' wz hoz hgz hnz; obtain ⟨vA, vc, rfl, _⟩ := RdC.of_own hoz))
            | fail)
          have hlz : (fl.eraseIdx i).length = fl.length - 1 := List.length_eraseIdx_of_lt hi
          have hNz := hNb.grown hKRb.outR hgz
          rw [← hlz] at hNz
          have hyKb : Kp w wb y := ⟨hyK.1, hyK.2.imp id fun h => own_below h hbw⟩
          have hKRz := hKRb.addOut (y := y) hyKb hoz hgz hnz
          exact ⟨⟨k + 1, In, Out ++ [y], iA, ic, vA, vc, fl.eraseIdx i, A6, c6, s, db, d, x + 1, by omega, rfl, rfl, by simp, rfl, rfl, rfl, by simpa using hKRz, hNz, hKN.out i hi y hyk d (x + 1) (by omega) (by omega) (by omega)⟩, by simp [intOf]; omega⟩
        · have hlos := lose_bad g room A2 fl.length c2 s d x w5 hN5.c hr1 mm (by omega) (by omega)
          go_upto_region 22 with fail
          go_wp2_with fail
          refine hlos.mono ?_
          rintro e w6 ⟨rfl, hw6⟩
          rw [hw6]
          clear c0 c1 c2' c3 c4 hlos hRg hG5 hGr5 hyKp hbx5 hw6
          go_wp2_with fail
          exact ⟨⟨k + 1, In, Out, iA, ic, oA, oc, fl, A2, c2, s, db, d, x, by omega, rfl, rfl, rfl, rfl, rfl, rfl, hKR5, hN5, hKN.skip⟩, by simp [intOf]; omega⟩
      by_cases hk3 : kk = 3
      · subst hk3
        by_cases hin : 0 ≤ mm ∧ mm < (fl.length : Int)
        · obtain ⟨i, rfl⟩ : ∃ i : Nat, mm = (i : Int) := ⟨mm.toNat, by omega⟩
          have hi : i < fl.length := by omega
          by_cases hroomy : (fl.length : Int) < room
          · have hiG : i < G.length := by omega
            obtain ⟨z, hz⟩ : ∃ z, fl[i] = z := ⟨_, rfl⟩
            have hdbl := double_at w.heap.size g room _ s d x fl w5 hN5 hKR5.bel.size hr1 hr2 hroomy hbigN i hi z hz
            have hyk : (G[i]).key = (fl[i]).key := by
              have := congrArg (fun l : List (Int × Int × List UInt8) => l[i]?) hGk
              simp only [List.getElem?_map, List.getElem?_eq_getElem hiG, List.getElem?_eq_getElem hi, Option.map_some, Option.some.injEq] at this
              exact this
            have hyr := hGr5 _ (List.getElem_mem hiG)
            go_upto_region 26 with fail
            go_wp2_with fail
            refine hdbl.mono ?_
            rintro e w6 ⟨rfl, A6, c6, A6', c6', hN6, hk6⟩
            have hKR6 := hKR5.net hN5 hgw hk6
            have hbx6 := hbx5.net hN5 hk6
            have hG6 := own_net hG5 hN5 (by decide) hk6
            obtain ⟨ga, rfl, x0, x1, x2⟩ := (show ApRow w6 gA G.length G from ⟨rfl, rd_fls hG6 rfl, fun z hz => ⟨(hGr5 z hz).1, rd_of_own (own_net (hGr5 z hz).2 hN5 (by decide) hk6) rfl⟩⟩).cell i hiG
            obtain ⟨y, hy⟩ : ∃ y, G[i] = y := ⟨_, rfl⟩
            rw [hy] at hyk hyr x0 x1 x2
            have hyK : Kp w w6 y := ⟨hyr.1, .inr (own_net hyr.2 hN5 (by decide) hk6)⟩
            generalize hp : ga.add (i * 3) = p at *
            have hiGi : (i : Int) < (G.length : Int) := by omega
            have hi0 : ¬ (i : Int) < 0 := by omega
            clear c0 c1 c2' c3 c4 hdbl hRg hG5 hGr5 hyKp
            have c1 := hbx6.c1
            obtain ⟨wb, hwb⟩ : ∃ wb, wb = w6.alloc (.cells #[.int .i64 y.f, .int .i64 y.t, .slice y.A y.n y.c] 38) := ⟨_, rfl⟩
            have hbw : Below w6.heap.size w6 wb := by rw [hwb]; exact (Below.refl _ _).alloc (Nat.le_refl _) _
            have hbb : wb.heap[w6.heap.size]? = some (.cells #[.int .i64 y.f, .int .i64 y.t, .slice y.A y.n y.c] 38 (0, 0)) := by rw [hwb]; exact heap_alloc_new _ _
            have hKRb := (hKR6).below hbw
            have hNb := (hN6).below hbw
            have HWb := Lib.hid hwb
            clear hwb
            go_wp2_with (first
              | (at_builtin; go_loud (rw [← HWb.out]; refine wpList_app2 elt38 rfl (.tmp 107) (.tmp 113) rfl w.heap.size (.slice iA In.length ic) In.length _ rfl hKRb.inR (some ⟨w6.heap.size, 0, none⟩) 1 1 [.int .i64 y.f, .int .i64 y.t, .slice y.A y.n y.c] rfl rfl (rd_lits hbb) (by simp [Value.oneCell']) (by unfold maxLen; omega) (by omega) hKRb.bel.size ?_; intro v' wz hoz hgz hnz; obtain ⟨vA, vc, rfl, _⟩ := RdC.of_own hoz))
              | fail)
            have hlz : (fl ++ [(⟨z.f, z.t, A6', z.n, c6', z.l, z.bad⟩ : Fl)]).length = fl.length + 1 := by simp
            have hNz := hNb.grown hKRb.inR hgz
            rw [← hlz] at hNz
            have hyKb : Kp w wb y := ⟨hyK.1, hyK.2.imp id fun h => own_below h hbw⟩
            have hKRz := hKRb.addIn (y := y) hyKb hoz hgz hnz
            exact ⟨⟨k + 1, In ++ [y], Out, vA, vc, oA, oc, fl ++ [⟨z.f, z.t, A6', z.n, c6', z.l, z.bad⟩], A6, c6, s, db + 1, d, x, by omega, rfl, by simp, rfl, rfl, rfl, rfl, by simpa using hKRz, hNz, hKN.dbl i hi y _ hyk (by rw [hz]; rfl) hroomy⟩, by simp [intOf]; omega⟩
          · have hdbl := double_full g room A2 fl.length c2 s d x w5 hN5.c hr1 (i : Int) (by omega) (by omega) (by omega) (by omega)
            go_upto_region 26 with fail
            go_wp2_with fail
            refine hdbl.mono ?_
            rintro e w6 ⟨rfl, hb56⟩
            have hKR7 := hKR5.below hb56
            have hN7 := hN5.below hb56
            clear c0 c1 c2' c3 c4 hdbl hRg hG5 hGr5 hyKp hbx5 hKR5 hN5
            go_wp2_with fail
            exact ⟨⟨k + 1, In, Out, iA, ic, oA, oc, fl, A2, c2, s, db, d, x, by omega, rfl, rfl, rfl, rfl, rfl, rfl, hKR7, hN7, hKN.skip⟩, by simp [intOf]; omega⟩
        · have hdbl := double_bad g room A2 fl.length c2 s d x w5 hN5.c hr1 mm (by omega) (by omega)
          go_upto_region 26 with fail
          go_wp2_with fail
          refine hdbl.mono ?_
          rintro e w6 ⟨rfl, hb56⟩
          have hKR7 := hKR5.below hb56
          have hN7 := hN5.below hb56
          clear c0 c1 c2' c3 c4 hdbl hRg hG5 hGr5 hyKp hbx5 hKR5 hN5
          go_wp2_with fail
          exact ⟨⟨k + 1, In, Out, iA, ic, oA, oc, fl, A2, c2, s, db, d, x, by omega, rfl, rfl, rfl, rfl, rfl, rfl, hKR7, hN7, hKN.skip⟩, by simp [intOf]; omega⟩
      by_cases hk4 : kk = 4
      · subst hk4
        by_cases hin : 0 ≤ mm ∧ mm < (fl.length : Int)
        · obtain ⟨i, rfl⟩ : ∃ i : Nat, mm = (i : Int) := ⟨mm.toNat, by omega⟩
          have hi : i < fl.length := by omega
          have hdel := delay_ok w.heap.size g room _ s d x fl w5 hN5 hKR5.bel.size hfl5 hr1 i hi
          go_upto_region 30 with fail
          go_wp2_with fail
          refine hdel.mono ?_
          rintro e w6 ⟨rfl, A6, c6, hN6, hk6⟩
          have hKR6 := hKR5.net hN5 hgw hk6
          have hlz : (fl.eraseIdx i ++ [fl[i]]).length = fl.length := by rw [List.length_append, List.length_eraseIdx_of_lt hi]; simp; omega
          rw [← hlz] at hN6
          clear c0 c1 c2' c3 c4 hdel hRg hG5 hGr5 hyKp hbx5 hlz
          go_wp2_with fail
          exact ⟨⟨k + 1, In, Out, iA, ic, oA, oc, fl.eraseIdx i ++ [fl[i]], A6, c6, s, db, d, x, by omega, rfl, rfl, rfl, rfl, rfl, rfl, hKR6, hN6, hKN.delay i hi⟩, by simp [intOf]; omega⟩
        · have hdel := delay_bad g room A2 fl.length c2 s d x w5 hN5.c hr1 mm (by omega) (by omega)
          go_upto_region 30 with fail
          go_wp2_with fail
          refine hdel.mono ?_
          rintro e w6 ⟨rfl, hw6⟩
          rw [hw6]
          clear c0 c1 c2' c3 c4 hdel hRg hG5 hGr5 hyKp hbx5 hw6
          go_wp2_with fail
          exact ⟨⟨k + 1, In, Out, iA, ic, oA, oc, fl, A2, c2, s, db, d, x, by omega, rfl, rfl, rfl, rfl, rfl, rfl, hKR5, hN5, hKN.skip⟩, by simp [intOf]; omega⟩
      have e0 : (kk == 0) = false := by rw [beq_eq_false_iff_ne]; exact hk0
      have e1 : (kk == 1) = false := by rw [beq_eq_false_iff_ne]; exact hk1
      have e2 : (kk == 2) = false := by rw [beq_eq_false_iff_ne]; exact hk2
      have e3 : (kk == 3) = false := by rw [beq_eq_false_iff_ne]; exact hk3
      have e4 : (kk == 4) = false := by rw [beq_eq_false_iff_ne]; exact hk4
      clear c0 c1 c2' c3 c4 hRg hG5 hGr5 hyKp hbx5 hk0 hk1 hk2 hk3 hk4
      go_wp2_with fail
      exact ⟨⟨k + 1, In, Out, iA, ic, oA, oc, fl, A2, c2, s, db, d, x, by omega, rfl, rfl, rfl, rfl, rfl, rfl, hKR5, hN5, hKN.skip⟩, by simp [intOf]; omega⟩
    · obtain rfl : k = len := by omega
      clear HOK HCELL H300 hR
      have hki : ¬ (k : Int) < (k : Int) := by omega
      have hfl5 : fl.length ≤ 5000 := by have := hKN.le; omega
      have hall := all_any w.heap.size g room _ s d x fl wr hN hKR.bel.size hr1 hfl5 (fun y hy => by have := hKN.big y hy; rw [(hN.raw y hy).1] at this; omega)
      go_wp2_with fail
      refine hall.mono ?_
      rintro e w5 ⟨G, gA, gc, rfl, hG, hGk, hGr, hb45⟩
      have hKR5 := hKR.below hb45
      have hN5 := hN.below hb45
      have hGl : G.length = fl.length := by have := congrArg List.length hGk; simpa using this
      have hb5 := hKR5.bel
      have hInR : ApRow w5 iA In.length In := ⟨rfl, rd_fls hKR5.inR rfl, fun y hy => (hKR5.inK y hy).rd hb5⟩
      have hOutR : ApRow w5 oA Out.length Out := ⟨rfl, rd_fls hKR5.outR rfl, fun y hy => (hKR5.outK y hy).rd hb5⟩
      have hGR : ApRow w5 gA G.length G := ⟨rfl, rd_fls hG rfl, fun y hy => ⟨(hGr y hy).1, rd_of_own (hGr y hy).2 rfl⟩⟩
      have hic : In.length ≤ ic := by obtain ⟨_, _, e, h1, _⟩ := RdC.of_own hKR5.inR; cases e; exact h1
      have hoc : Out.length ≤ oc := by obtain ⟨_, _, e, h1, _⟩ := RdC.of_own hKR5.outR; cases e; exact h1
      have hgc : G.length ≤ gc := by obtain ⟨_, _, e, h1, _⟩ := RdC.of_own hG; cases e; exact h1
      have hInl : In.length ≤ 150 := by have := hKN.hIn; omega
      have hOutl : Out.length ≤ 150 := by have := hKN.len; omega
      have hcounts : ∀ f, (In.map Fl.key).count f = (Out.map Fl.key).count f + (G.map Fl.key).count f := fun f => by rw [hGk]; exact hKN.cnt f
      have hcb : ∀ f, (In.map Fl.key).count f ≤ 150 := fun f => Nat.le_trans List.count_le_length (by rw [List.length_map]; exact hInl)
      have hcnt := count_any g room (.slice A2 fl.length c2) s d x
      have hG1 : G.length ≤ 5000 := by omega
      have HGl := Lib.hid hGl
      clear hall hG hGr hKR hN hb45 hGl
      go_wp2_with fail
      go_loopw [128] (fun i wr => ∃ j : Nat, j ≤ In.length ∧ i = .int .i64 (j : Int) ∧ Below w5.heap.size w5 wr) (fun i _ => In.length - (intOf i).toNat)
      case atStart => exact ⟨0, by omega, rfl, Below.refl _ _⟩
      case round =>
        obtain ⟨j, hj, rfl, hbr⟩ := hrel
        by_cases hjm : j < In.length
        · obtain ⟨ia, hia, q0, q1, q2⟩ := (hInR.below hbr).cell j hjm
          have hfr := (hInR.below hbr).2.2 _ (List.getElem_mem hjm)
          have hc1 := hcounts (In[j]).key
          have hc2 := hcb (In[j]).key
          have hji : (j : Int) < (In.length : Int) := by omega
          have hj0 : ¬ (j : Int) < 0 := by omega
          have hwj : IntKind.i64.wrap ((j : Int) + 1) = (j : Int) + 1 := IntWalk.i64_in _ (by omega)
          generalize In[j] = f at *
          obtain ⟨w7, hw7⟩ : ∃ w7, w7 = wr.alloc (.cells #[.int .i64 f.f, .int .i64 f.t, .slice f.A f.n f.c] 38) := ⟨_, rfl⟩
          have hb67 : Below wr.heap.size wr w7 := by rw [hw7]; exact (Below.refl _ _).alloc (Nat.le_refl _) _
          have h7 : w7.heap[wr.heap.size]? = some (.cells #[.int .i64 f.f, .int .i64 f.t, .slice f.A f.n f.c] 38 (0, 0)) := by rw [hw7]; exact heap_alloc_new _ _
          have hb57 := below_then hbr hb67 (Nat.le_refl _)
          have hf7 := hfr.below hb67
          have hwc : IntKind.i64.wrap ((((Out.map Fl.key).count f.key : Nat) : Int) + (((G.map Fl.key).count f.key : Nat) : Int)) = (((In.map Fl.key).count f.key : Nat) : Int) := by rw [IntWalk.i64_in _ (by omega)]; omega
          subst hia
          generalize hp : ia.add (j * 3) = p at *
          have HW7 := Lib.hid hw7
          clear hw7 hcounts hcb hc1 hc2
          go_upto_region 36 with fail
          rw [← HW7.out]
          refine nkp36 In.length ic Out.length oc G.length gc wr.heap.size f.n f.c _ _ _ _ oA gA f.A f.f f.t w7 (fun W hb => count_in _ _ _ In f W (hInR.below (below_then hb57 hb (Nat.le_refl _))) (hf7.below hb) (by omega) hic) (fun W hb => count_in _ _ _ Out f W (hOutR.below (below_then hb57 hb (Nat.le_refl _))) (hf7.below hb) (by omega) hoc) (fun W hb => count_in _ _ _ G f W (hGR.below (below_then hb57 hb (Nat.le_refl _))) (hf7.below hb) (by omega) hgc) hwc (fun W hb => (hb.block _ (lt_get h7)).trans h7) fun w8 hb8 => ?_
          go_wp2_with fail
          exact ⟨⟨j + 1, by omega, rfl, below_then hb57 hb8 (Nat.le_refl _)⟩, by simp [intOf]; omega⟩
        · obtain rfl : j = In.length := by omega
          have hji : ¬ (In.length : Int) < (In.length : Int) := by omega
          have hN6 := hN5.below hbr
          have hcn := hcnt wr hN6.c hr1
          have hGl := HGl.out
          have hnum := hKN.num
          have hlen := hKN.len
          have hle := hKN.le
          have b1 := hKN.hs
          have b2 := hKN.hdb
          have b3 := hKN.hd
          have b4 := hKN.hx
          have w1' : IntKind.i64.wrap ((Out.length : Int) + (G.length : Int)) = (In.length : Int) := by rw [IntWalk.i64_in _ (by omega)]; omega
          have w2' : IntKind.i64.wrap ((s : Int) + (db : Int)) = ((d + x + G.length : Nat) : Int) := by rw [IntWalk.i64_in _ (by omega)]; omega
          have w3' : IntKind.i64.wrap ((d : Int) + (x : Int)) = ((d + x : Nat) : Int) := by rw [IntWalk.i64_in _ (by omega)]; omega
          have w4' : IntKind.i64.wrap (((d + x : Nat) : Int) + (G.length : Int)) = ((d + x + G.length : Nat) : Int) := by rw [IntWalk.i64_in _ (by omega)]; omega
          have w5' : (G.length : Int) ≤ room := by omega
          have hbf := below_then hb5 hbr (Nat.le_refl _)
          clear hnum hlen hle b1 b2 b3 b4 hInR hOutR hGR hKR5 hN5 hN6 hcounts hcb hKN hcnt hGk hGl
          generalize ((d + x : Nat) : Int) = dx at *
          generalize ((d + x + G.length : Nat) : Int) = dxg at *
          generalize In.length = inl at *
          generalize Out.length = outl at *
          generalize G.length = gl at *
          go_wp2_with fail
          refine hcn.mono ?_
          rintro e w' ⟨rfl, nn, hw'⟩
          rw [hw']
          clear hw' hcn
          go_wp2_with fail
          go_ret
          exact ⟨rfl, below_then hbf (below_drewN _ _) (Nat.le_refl _)⟩
end Go.Proofs.Ytfojlmnlolnilaa
