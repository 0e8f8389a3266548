/- The law NetOrder, walked. -/
import Derived.Test.YtfojlmnlolnilaaNetGe
import Derived.Test.YtfojlmnlolnilaaNetK
namespace Go.Proofs.Ytfojlmnlolnilaa
open Go.RowKit
attribute [local go_sem] Oper.semAt_some

theorem own_apart {W : World} {B B' : Nat} {e e' : TypeId} {s s' n n' : Nat} {v v' : Value} {xs xs' : List Value} (h : W.ownsRow B e s v n xs) (h' : W.ownsRow B' e' s' v' n' xs') (he : e ≠ e') (k : Nat) (hk : v.ownBlock = some k) : v'.ownBlock ≠ some k := by
  rcases h.2 with ⟨rfl, _⟩ | ⟨g, cap, cur, rfl, _, hg, _⟩
  · cases hk
  · obtain rfl : g = k := by simpa [Value.ownBlock] using hk
    exact own_ne h' hg he
theorem NetAt.grown {B g B' : Nat} {room : Int} {v : Value} {s d x : Int} {fl : List Fl} {W W' : World} {u : Value} {n : Nat} {xs : List Value} (h : NetAt B g room v s d x fl W) (ho : W.ownsRow B' 38 3 u n xs) (hg : W.grownBy W' u.ownBlock) : NetAt B g room v s d x fl W' :=
  ⟨(hg.block g (lt_get h.c) (Ne.symm (own_ne ho h.c (by decide)))).trans h.c, own_of_block h.row fun k hk => hg.block k (h.row.lt k hk).2 (Ne.symm (own_apart h.row ho (by decide) k hk)),
    fun y hy => ⟨(h.raw y hy).1, own_of_block (h.raw y hy).2 fun k hk => hg.block k ((h.raw y hy).2.lt k hk).2 (Ne.symm (own_apart (h.raw y hy).2 ho (by decide) k hk))⟩, h.apart, h.hB⟩
theorem own_grown {B B' e' s' n' : Nat} {e : TypeId} {W W' : World} {u v : Value} {n s : Nat} {xs xs' : List Value} (h : W.ownsRow B e s v n xs) (ho : W.ownsRow B' e' s' u n' xs') (he : e ≠ e') (hg : W.grownBy W' u.ownBlock) : W'.ownsRow B e s v n xs :=
  own_of_block h fun k hk => hg.block k (h.lt k hk).2 (Ne.symm (own_apart h ho he k hk))
/-- What lies in a row of its own outlives a net's doings. -/
theorem own_net {B B' g : Nat} {e : TypeId} {W W' : World} {v : Value} {n s : Nat} {xs : List Value} {room : Int} {nv : Value} {sn d x : Int} {fl : List Fl} (h : W.ownsRow B e s v n xs) (hN : NetAt B' g room nv sn d x fl W) (he : 70 ≠ e) (hk : Kept (fun k => k = g) W W') : W'.ownsRow B e s v n xs :=
  own_of_block h fun k hk2 => hk.block k (h.lt k hk2).2 fun e2 => own_ne h hN.c he (by rw [hk2, e2])
def OpV.fl (o : OpV) : Fl := ⟨o.ff, o.ft, o.A, o.len, o.cap, o.l, false⟩
theorem OpRow.fcell {W : World} {a : Option Addr} {len cap : Nat} {L : List OpV} (h : OpRow W a len cap L) (k : Nat) (hk : k < L.length) :
    ∃ ad, a = some ad ∧ W.cell? ⟨(ad.add (k * 8)).block, (ad.add (k * 8)).off + 2, none⟩ = some (.int .i64 (L[k]).ff) ∧ W.cell? ⟨(ad.add (k * 8)).block, (ad.add (k * 8)).off + 3, none⟩ = some (.int .i64 (L[k]).ft) ∧ W.cell? ⟨(ad.add (k * 8)).block, (ad.add (k * 8)).off + 4, none⟩ = some (.slice (L[k]).A (L[k]).len (L[k]).cap) := by
  obtain ⟨ad, rfl, _, qr⟩ := h.cell k hk
  refine ⟨ad, rfl, ?_, ?_, ?_⟩
  · rcases qr 1 with h | h
    · exact h.symm
    · omega
  · rcases qr 2 with h | h
    · exact h.symm
    · omega
  · rcases qr 3 with h | h
    · exact h.symm
    · omega
def slcLen : Value → Nat
  | .slice _ n _ => n
  | _ => 0
theorem rd_of_own {W : World} {B n : Nat} {v : Value} {l : List UInt8} {A : Option Addr} {c : Nat} (h : W.ownsRow B 5 1 v n (u8v l)) (hv : v = .slice A n c) : RdC W A (u8v l) := by
  obtain ⟨A', c', e, _, _, hr', _⟩ := RdC.of_own h
  rw [hv] at e
  have e1 : A = A' := by injection e
  rw [e1]; exact hr'
theorem rd_fls {W : World} {B n : Nat} {v : Value} {L : List Fl} {A : Option Addr} {c : Nat} (h : W.ownsRow B 38 3 v n (apC L)) (hv : v = .slice A n c) : RdC W A (apC L) := by
  obtain ⟨A', c', e, _, _, hr', _⟩ := RdC.of_own h
  rw [hv] at e
  have e1 : A = A' := by injection e
  rw [e1]; exact hr'
set_option maxRecDepth 100000 in
set_option maxHeartbeats 16000000 in
theorem netOrder_walk (a : Option Addr) (len cap : Nat) (L : List OpV) (which : UInt8) (w : World) (hR : OpRow w a len cap L) :
    Calls Try.prog 4 #[.slice a len cap, .int .u8 (which.toNat : Int)] w fun e w' => e = .returned (.bool true) ∧ Below w.heap.size w w' := by
  obtain ⟨hl, hlc, hcm, hok, hcell⟩ := id hR
  have hli : (len : Int) ≤ 9223372036854775807 := by unfold maxLen at hcm; omega
  go_enter Try.func4, Try.ntmps4
  go_wp2_with fail
  refine (alive_any w).mono ?_
  rintro e w1 ⟨rfl, hb1⟩
  obtain ⟨w2, hw2⟩ : ∃ w2, w2 = w1.alloc (.cells #[.int .i64 100, .slice none 0 0, .int .i64 0, .int .i64 0, .int .i64 0] 70) := ⟨_, rfl⟩
  have hb12 : Below w1.heap.size w1 w2 := by rw [hw2]; exact (Below.refl _ _).alloc (Nat.le_refl _) _
  have hc2 : NetC w1.heap.size 100 (.slice none 0 0) 0 0 0 w2 := by rw [hw2]; exact heap_alloc_new _ _
  have hN2 := NetAt.fresh w.heap.size w1.heap.size 100 w2 hb1.size hc2
  have hnew := new_ok 100 (by omega) (by omega) w1
  rw [← hw2] at hnew
  have hb2 := below_then hb1 hb12 (Nat.le_refl _)
  clear hw2 hc2
  generalize w1.heap.size = g at *
  go_wp2_with fail
  refine hnew.mono ?_
  rintro e w' ⟨rfl, hw'⟩
  rw [hw']
  clear hw' hnew
  go_wp2_with fail
  refine (great_any a len cap L w2 (hR.below hb2)).mono ?_
  rintro e w3 ⟨rfl, (⟨rfl, h150, h300⟩ | rfl)⟩
  case inr =>
    go_wp2_with fail
    go_ret
    exact ⟨rfl, hb2⟩
  by_cases h40 : 40 < len
  · have h40i : (40 : Int) < (len : Int) := by omega
    clear h150 h300 hok hcell
    go_wp2_with fail
    go_ret
    exact ⟨rfl, hb2⟩
  have h40i : ¬ (40 : Int) < (len : Int) := by omega
  have HCELL := Lib.hid hcell
  have HOK := Lib.hid hok
  have H300 := Lib.hid h300
  clear h150 h300 hok hcell
  go_wp2_with fail
  have hgw := hN2.hB
  go_loopw [8, 42] (fun u i wr => ∃ (k : Nat) (uA : Option Addr) (uc : Nat) (A2 : Option Addr) (c2 : Nat) (fl : List Fl), k ≤ len ∧ i = .int .i64 (k : Int) ∧ u = .slice uA k uc ∧ wr.ownsRow w.heap.size 38 3 (.slice uA k uc) k (apC ((L.take k).map OpV.fl)) ∧ NetAt w.heap.size g 100 (.slice A2 k c2) k 0 0 fl wr ∧ fl.length = k ∧ fl.map Fl.key = ((L.take k).map OpV.fl).map Fl.key ∧ Below w.heap.size w wr) (fun _ i _ => len - (intOf i).toNat)
  case atStart => exact ⟨0, none, 0, none, 0, [], by omega, rfl, rfl, ⟨rfl, .inl ⟨rfl, rfl⟩⟩, hN2, rfl, by simp, hb2⟩
  case round =>
    obtain ⟨k, uA, uc, A2, c2, fl, hk, rfl, rfl, hu, hN, hfl, hkey, hbr⟩ := hrel
    clear hN2 hb12 hb2 hb1
    by_cases hlt : k < len
    · obtain ⟨ad, rfl, q2, q3, q4⟩ := hR.fcell k (by omega)
      have hok := (HOK.out _ (List.getElem_mem (show k < L.length by omega))).2.2.1
      have h3 := H300.out _ (List.getElem_mem (show k < L.length by omega))
      have htake : (L.take (k + 1)).map OpV.fl = (L.take k).map OpV.fl ++ [(L[k]).fl] := by rw [List.take_succ_eq_append_getElem (by omega), List.map_append]; rfl
      have hki : (k : Int) < (len : Int) := by omega
      have hwk : IntKind.i64.wrap ((k : Int) + 1) = (k : Int) + 1 := IntWalk.i64_in _ (by omega)
      have carry : ∀ (q : Addr) u W, w.cell? q = some u → Below w.heap.size w W → W.cell? q = some u := fun q u W h hb => (hb.cell (World.block_lt_of_cell? w q h)).trans h
      generalize hp : ad.add (k * 8) = p at *
      generalize ho : L[k] = o at *
      obtain ⟨ok, om, ff, ft, oA, oln, ocp, ol, ocut, osx, osm⟩ := o
      simp only [OpV.fl] at htake
      simp only at hok h3 q2 q3 q4
      obtain ⟨hol, hoc, hocm, horr⟩ := hok
      have hsend := send_ok w.heap.size g 100 _ k 0 0 fl wr hN hbr.size (by omega) (by omega) (by omega) (by omega) (by omega) ff ft oA oln ocp ol (by omega) hol (horr.below hbr) (fun ad2 e hne => by
        subst e
        cases ol with
        | nil => exact absurd rfl hne
        | cons b t =>
          obtain ⟨ad3, e3, hc3⟩ := horr 0 _ rfl
          cases e3
          have := World.block_lt_of_cell? w _ hc3
          rw [addr_add_block] at this
          omega)
      have p2 := carry _ _ wr q2 hbr
      have p3 := carry _ _ wr q3 hbr
      have p4 := carry _ _ wr q4 hbr
      have HQ := Lib.hid (And.intro q2 (And.intro q3 q4))
      have HT := Lib.hid htake
      have HC := Lib.hid carry
      clear q2 q3 q4 htake carry
      go_upto_region 11 with (go_at_call 13; refine hsend.mono ?_; rintro e w4 ⟨rfl, A4, c4, A', c', hN4, hnew4, hk4⟩)
      have hb4 : Below w.heap.size w w4 := below_kept hbr hk4 (fun k e => by omega)
      have p2 := HC.out _ _ w4 HQ.out.1 hb4
      have p3 := HC.out _ _ w4 HQ.out.2.1 hb4
      have p4 := HC.out _ _ w4 HQ.out.2.2 hb4
      obtain ⟨w5, hw5⟩ : ∃ w5, w5 = w4.alloc (.cells #[.int .i64 ff, .int .i64 ft, .slice oA oln ocp] 38) := ⟨_, rfl⟩
      have hb45 : Below w4.heap.size w4 w5 := by rw [hw5]; exact (Below.refl _ _).alloc (Nat.le_refl _) _
      have h5 : w5.heap[w4.heap.size]? = some (.cells #[.int .i64 ff, .int .i64 ft, .slice oA oln ocp] 38 (0, 0)) := by rw [hw5]; exact heap_alloc_new _ _
      have hu5 := own_below (own_net hu hN (by decide) hk4) hb45
      have hb5 := below_then hb4 hb45 (Nat.le_refl _)
      have hN5 := hN4.below hb45
      have HW := Lib.hid hw5
      clear hw5 hu hN hsend
      go_wp2_with (first
        | (at_builtin; go_loud (rw [← HW.out]; refine wpList_app2 elt38 rfl (.tmp 53) (.tmp 59) rfl w.heap.size (.slice uA k uc) k _ rfl hu5 (some ⟨w4.heap.size, 0, none⟩) 1 1 [.int .i64 ff, .int .i64 ft, .slice oA oln ocp] rfl rfl (rd_lits h5) (by simp [Value.oneCell']) (by unfold maxLen; omega) (by omega) hb5.size ?_; intro v' w6 ho6 hg6 hn6))
        | fail)
      obtain ⟨vA, vc, rfl, _⟩ := RdC.of_own ho6
      refine ⟨⟨k + 1, vA, vc, A4, c4, fl ++ [⟨ff, ft, A', oln, c', ol, false⟩], by omega, rfl, rfl, ?_, ?_, by simp [hfl], ?_, hb5.grown hg6 hb5.size fun b hb => (hu5.lt b hb).1⟩, by simp [intOf]; omega⟩
      · rw [HT.out, apC_append]
        exact ho6
      · have := hN5.grown hu5 hg6
        rw [hfl] at this
        exact this
      · rw [HT.out, List.map_append, List.map_append, hkey]
        rfl
    · obtain rfl : k = len := by omega
      have hLk : L.take k = L := List.take_of_length_le (by omega)
      rw [hLk] at hu hkey
      have hWl : (L.map OpV.fl).length = k := by rw [List.length_map, hl]
      have hWrd : ∀ y ∈ L.map OpV.fl, y.rd w := fun y hy => by
        obtain ⟨o, ho, rfl⟩ := List.mem_map.1 hy
        have := (HOK.out o ho).2.2.1
        exact ⟨this.1, this.2.2.2⟩
      have hW300 : ∀ y ∈ L.map OpV.fl, y.l.length ≤ 300 := fun y hy => by
        obtain ⟨o, ho, rfl⟩ := List.mem_map.1 hy
        have h1 := H300.out o ho
        have h2 := (HOK.out o ho).2.2.1.1
        show o.l.length ≤ 300
        omega
      have hkl : ¬ (k : Int) < (k : Int) := by omega
      generalize L.map OpV.fl = W at *
      clear HOK H300 HCELL
      by_cases hk0 : k = 0
      · subst hk0
        obtain rfl : fl = [] := List.length_eq_zero_iff.1 hfl
        have hsame := fun W' => same_any none 0 0 [] uA 0 uc [] W' ⟨rfl, RdC.nil _ _, fun y hy => by cases hy⟩ ⟨rfl, RdC.nil _ _, fun y hy => by cases hy⟩ (by omega) (by omega)
        have hlen := len_any g 100 A2 0 c2 _ 0 0 wr hN.c (by omega)
        have hcnt := count_any g 100 _ _ 0 0 wr hN.c (by omega)
        simp only [List.map_nil, decide_true] at hsame
        clear hu hN hkey hWl hWrd hW300 hLk hR hl hlc hcm hli hfl hk
        go_wp2_with fail
        go_loopw [12] (fun u W' => u = .slice none 0 0 ∧ W' = wr) (fun _ _ => 0)
        case atStart => exact ⟨rfl, rfl⟩
        case round =>
          obtain ⟨rfl, rfl⟩ := hrel
          have hno : ¬ (0 : Int) < ((0 : Nat) : Int) := by omega
          go_wp2_with fail
          refine hlen.mono ?_
          rintro e w' ⟨rfl, hw'⟩
          rw [hw']
          clear hw' hlen
          go_wp2_with fail
          refine hcnt.mono ?_
          rintro e w' ⟨rfl, nn, hw'⟩
          rw [hw']
          clear hw' hcnt
          go_wp2_with fail
          refine (hsame _).mono ?_
          rintro e w9 ⟨rfl, hb9⟩
          clear hsame
          go_wp2_with fail
          go_ret
          exact ⟨rfl, below_then (below_then hbr (below_drewN _ _) (Nat.le_refl _)) hb9 (Nat.le_refl _)⟩
      · have hkpos : (0 : Int) < (k : Int) := by omega
        have hN300 : ∀ y ∈ fl, y.l.length ≤ 300 := fun y hy => by
          have hy2 : y.key ∈ W.map Fl.key := by rw [← hkey]; exact List.mem_map.2 ⟨y, hy, rfl⟩
          obtain ⟨z, hz, hzk⟩ := List.mem_map.1 hy2
          have h1 := hW300 z hz
          simp only [Fl.key, Prod.mk.injEq] at hzk
          rw [← hzk.2.2]
          exact h1
        have hNn : ∀ y ∈ fl, y.n ≤ 100000000 := fun y hy => by
          have := hN300 y hy
          rw [(hN.raw y hy).1] at this
          omega
        obtain ⟨j, hj⟩ : ∃ j, which.toNat % k = j := ⟨_, rfl⟩
        have hjk : j < k := by rw [← hj]; exact Nat.mod_lt _ (by omega)
        have hjW : j < W.length := by omega
        have hmod : (which.toNat : Int).tmod (k : Int) = (j : Int) := by rw [Int.tmod_eq_emod_of_nonneg (by omega), ← hj]; omega
        have hw8 : wrap64 (which.toNat : Int) = (which.toNat : Int) := IntWalk.wrap64_in _ (by have := which.toNat_lt; omega)
        have hR0 : ApRow wr uA k W := ⟨hWl, rd_fls hu rfl, fun y hy => (hWrd y hy).below hbr⟩
        obtain ⟨ua, rfl, q0, q1, q2⟩ := hR0.cell j hjW
        have hjki : (j : Int) < (k : Int) := by omega
        have hucm : uc ≤ maxLen ∧ k ≤ uc := by
          obtain ⟨A', c', e, h1, h2, _, _⟩ := RdC.of_own hu
          cases e
          exact ⟨h2, h1⟩
        have hLz : Fl.key (W[j]'hjW) ∈ W.map Fl.key := List.mem_map.2 ⟨_, List.getElem_mem hjW, rfl⟩
        generalize hz : W[j] = z at *
        obtain ⟨zf, zt, zA, zn, zc, zl, zb⟩ := z
        simp only at q0 q1 q2
        generalize hp : ua.add (j * 3) = p at *
        clear hj
        go_upto_region 16 with fail
        clear hmod hw8 q0 q1 q2
        obtain ⟨w4, hw4⟩ : ∃ w4, w4 = wr.alloc (.cells #[.int .i64 zf, .int .i64 zt, .slice zA zn zc] 38) := ⟨_, rfl⟩
        rw [← hw4]
        have hb4 : Below wr.heap.size wr w4 := by rw [hw4]; exact (Below.refl _ _).alloc (Nat.le_refl _) _
        have h4 : w4.heap[wr.heap.size]? = some (.cells #[.int .i64 zf, .int .i64 zt, .slice zA zn zc] 38 (0, 0)) := by rw [hw4]; exact heap_alloc_new _ _
        clear hw4
        have hN4 := hN.below hb4
        have hb04 := below_then hbr hb4 (Nat.le_refl _)
        have hR4 := hR0.below hb4
        have hz4 := lt_get h4
        refine norder16 k uc j wr.heap.size w4.heap.size zn zc ua zA (apC W) zf zt w4 rfl (by rw [apC_length, hWl]) (by omega) hjk hucm.2 hucm.1 (apC_one W) (fun W' hb => (hR4.below hb).2.1) (IntWalk.i64_in _ (by omega)) (fun W' => run_sub_h (P := Try.prog) W' 35 (some ua) k uc 3 Try.underlying35 (Try.sizeOf38 W') _ j rfl (by omega)) (fun W' => run_sub_l (P := Try.prog) W' 35 (some ua) k uc 3 Try.underlying35 (Try.sizeOf38 W') _ (j + 1) (by omega) (by omega)) (fun W' hb => (hb.block _ hz4).trans h4) fun w5 r8 r74 r78 r83 r86 r87 hb5 ho5 => ?_
        have hjf : j < fl.length := by omega
        have hkj : (fl[j]'hjf).key = Fl.key ⟨zf, zt, zA, zn, zc, zl, zb⟩ := by
          have h1 := congrArg (fun l : List (Int × Int × List UInt8) => l[j]?) hkey
          simp only [List.getElem?_map, List.getElem?_eq_getElem hjf, List.getElem?_eq_getElem hjW, Option.map_some, Option.some.injEq] at h1
          rw [h1, hz]
        obtain ⟨W2, hW2⟩ : ∃ W2, W2 = W.take j ++ W.drop (j + 1) ++ [⟨zf, zt, zA, zn, zc, zl, zb⟩, ⟨zf, zt, zA, zn, zc, zl, zb⟩] := ⟨_, rfl⟩
        have hW2l : W2.length = k + 1 := by rw [hW2, List.length_append, List.length_append, List.length_take, List.length_drop, hWl]; simp; omega
        replace ho5 : w5.ownsRow w4.heap.size 38 3 r8 (k + 1) (apC W2) := by
          have e1 : 0 + j + (k - (j + 1)) + 2 = k + 1 := by omega
          have e2 : apC W2 = [] ++ (apC W).take (j * 3) ++ (apC W).drop ((j + 1) * 3) ++ [.int .i64 zf, .int .i64 zt, .slice zA zn zc, .int .i64 zf, .int .i64 zt, .slice zA zn zc] := by rw [hW2, apC_append, apC_append, apC_take, apC_drop]; rfl
          rw [e2, ← e1]
          exact ho5
        have hW2rd : ∀ y ∈ W2, y.rd w := fun y hy => by
          rw [hW2] at hy
          have hzm : (⟨zf, zt, zA, zn, zc, zl, zb⟩ : Fl) ∈ W := by rw [← hz]; exact List.getElem_mem hjW
          rcases List.mem_append.1 hy with hy | hy
          · rcases List.mem_append.1 hy with hy | hy
            · exact hWrd y (List.mem_of_mem_take hy)
            · exact hWrd y (List.mem_of_mem_drop hy)
          · simp only [List.mem_cons, List.not_mem_nil, or_false] at hy
            rcases hy with rfl | rfl <;> exact hWrd _ hzm
        obtain ⟨A8, c8, rfl, _⟩ := RdC.of_own ho5
        have hb05 := below_then hb04 hb5 (Nat.le_refl _)
        have hN5 := hN4.below hb5
        obtain ⟨y, hy⟩ : ∃ y, fl[j]'hjf = y := ⟨_, rfl⟩
        have hyn := hNn (fl[j]'hjf) (List.getElem_mem hjf)
        have hdel := delay_ok w.heap.size g 100 _ k 0 0 fl w5 hN5 hb05.size (by omega) (by omega) j hjf
        rw [hy] at hdel hkj hyn
        have hfl1 : (fl.eraseIdx j ++ [y]).length = k := by rw [List.length_append, List.length_eraseIdx_of_lt hjf]; simp; omega
        have hfln : ∀ x ∈ fl.eraseIdx j ++ [y], x.n ≤ 100000000 := fun x hx => by
          rcases List.mem_append.1 hx with hx | hx
          · exact hNn x (List.mem_of_mem_eraseIdx hx)
          · obtain rfl := List.mem_singleton.1 hx; exact hyn
        have hflk : (fl.eraseIdx j ++ [y]).map Fl.key ++ [y.key] = W2.map Fl.key := by
          rw [hW2, List.eraseIdx_eq_take_drop_succ, List.map_append, List.map_append, List.map_append, List.map_append, List.map_take, List.map_drop, hkey, List.map_take, List.map_drop]
          simp [hkj]
        have hlast : (fl.eraseIdx j ++ [y])[k - 1]? = some y := by
          rw [List.getElem?_append_right (by rw [List.length_eraseIdx_of_lt hjf]; omega), List.length_eraseIdx_of_lt hjf, hfl, Nat.sub_self]
          rfl
        rw [hfl] at hdel
        generalize fl.eraseIdx j ++ [y] = fl1 at *
        have hg4 : g < w4.heap.size := lt_get hN4.c
        clear hN hN4 hN5 hNn hN300 hR4 hR0 hu hkey hLz hW300 hWrd hW2 hz hy hWl hLk hR h4 hz4 hb4 hb04
        go_wp2_with fail
        refine hdel.mono ?_
        rintro e w6 ⟨rfl, A6, c6, hN6, hk6⟩
        have hb06 := below_kept hb05 hk6 (fun k e => by omega)
        have ho6 := own_of_block ho5 (w' := w6) fun b hb => hk6.block b (ho5.lt b hb).2 fun e => by have := (ho5.lt b hb).1; omega
        have hlen := len_any g 100 A6 k c6 k 0 0 w6 hN6.c (by omega)
        have hkf : k - 1 < fl1.length := by omega
        have hdbl := double_ok w.heap.size g 100 _ k 0 0 fl1 w6 hN6 hb06.size (by omega) (by omega) (by omega) hfln (k - 1) hkf
        have hl2 : fl1[k - 1]'hkf = y := by
          rw [List.getElem?_eq_getElem hkf] at hlast
          exact Option.some.inj hlast
        rw [hl2, hfl1, show ((k - 1 : Nat) : Int) = (k : Int) - 1 by omega] at hdbl
        clear hdel hl2 hlast
        go_wp2_with fail
        refine hlen.mono ?_
        rintro e w' ⟨rfl, hw'⟩
        rw [hw']
        clear hw' hlen
        go_wp2_with fail
        refine hdbl.mono ?_
        rintro e w7 ⟨rfl, A7, c7, A7', c7', hN7, hk7⟩
        have hb07 := below_kept hb06 hk7 (fun k e => by omega)
        have ho7 := own_of_block ho6 (w' := w7) fun b hb => hk7.block b (ho6.lt b hb).2 fun e => by have := (ho6.lt b hb).1; omega
        have hfl2 : (fl1 ++ [(⟨y.f, y.t, A7', y.n, c7', y.l, y.bad⟩ : Fl)]).map Fl.key = W2.map Fl.key := by
          rw [List.map_append, ← hflk]; rfl
        have hfl2l : (fl1 ++ [(⟨y.f, y.t, A7', y.n, c7', y.l, y.bad⟩ : Fl)]).length = k + 1 := by rw [List.length_append, hfl1]; rfl
        rw [show k + 1 = (fl1 ++ [(⟨y.f, y.t, A7', y.n, c7', y.l, y.bad⟩ : Fl)]).length from hfl2l.symm] at hN7
        generalize fl1 ++ [(⟨y.f, y.t, A7', y.n, c7', y.l, y.bad⟩ : Fl)] = fl2 at *
        clear hdbl hflk hfln hkj hyn hN6 ho6 hk6 hfl1
        have ho7' := rd_fls ho7 rfl
        go_wp2_with fail
        go_loopw [12] (fun u wr => ∃ (G : List Fl) (uA : Option Addr) (uc : Nat) (A2 : Option Addr) (c2 : Nat) (fl : List Fl), u = .slice uA G.length uc ∧ wr.ownsRow w7.heap.size 38 3 (.slice uA G.length uc) G.length (apC G) ∧ NetAt w.heap.size g 100 (.slice A2 fl.length c2) k G.length 0 fl wr ∧ G.map Fl.key ++ fl.map Fl.key = W2.map Fl.key ∧ (∀ y ∈ G, y.l.length = y.n ∧ wr.ownsRow w.heap.size 5 1 y.v y.n (u8v y.l)) ∧ Kept (fun k => k = g) w7 wr) (fun u _ => k + 1 - slcLen u)
        case atStart => exact ⟨[], none, 0, A7, c7, fl2, rfl, ⟨rfl, .inl ⟨rfl, rfl⟩⟩, hN7, by simpa using hfl2, (fun y hy => by cases hy), Kept.refl _ _⟩
        case round =>
          obtain ⟨G, uA, uc, A2, c2, fl, rfl, hu, hN, hkey, hraw, hk⟩ := hrel
          have hsum : G.length + fl.length = k + 1 := by
            have := congrArg List.length hkey
            rw [List.length_append, List.length_map, List.length_map, List.length_map, hW2l] at this
            exact this
          have hbr := below_kept hb07 hk (fun k e => by omega)
          have hlen := len_any g 100 A2 fl.length c2 k G.length 0 wr hN.c (by omega)
          cases fl with
          | nil =>
            simp only [List.length_nil] at hlen hsum hN
            have hno : ¬ (0 : Int) < ((0 : Nat) : Int) := by omega
            have hGW : G.map Fl.key = W2.map Fl.key := by rw [← hkey]; simp
            have hcnt := count_any g 100 _ k G.length 0 wr hN.c (by omega)
            have hGr : ApRow wr uA G.length G := ⟨rfl, rd_fls hu rfl, fun y hy => ⟨(hraw y hy).1, rd_of_own (hraw y hy).2 rfl⟩⟩
            have hWr : ApRow wr A8 (k + 1) W2 := ⟨hW2l, ho7'.kept_off hk (fun ad e e2 => by
              subst e
              have := (ho7.lt ad.block (by rcases ho7.2 with ⟨h, _⟩ | ⟨_, _, _, h, _⟩ <;> (cases h; try rfl))).1
              omega), fun y hy => (hW2rd y hy).below hbr⟩
            have hGk : G.length = k + 1 := by omega
            have hd1 : (((k : Int) + 1) == ((k + 1 : Nat) : Int)) = true := by rw [beq_iff_eq]; rfl
            clear hN7 hfl2 hfl2l ho5 ho7 ho7' hk7 hW2rd hN hraw hu hkey hk hsum
            go_wp2_with fail
            refine hlen.mono ?_
            rintro e w' ⟨rfl, hw'⟩
            rw [hw']
            clear hw' hlen
            go_wp2_with fail
            refine hcnt.mono ?_
            rintro e w' ⟨rfl, nn, hw'⟩
            rw [hw']
            have hsame := same_any uA G.length uc G A8 (k + 1) c8 W2 (wr.drewN nn) (hGr.below (below_drewN _ _)) (hWr.below (below_drewN _ _)) (by omega) (by omega)
            rw [decide_eq_true hGW, hGk] at hsame
            clear hw' hcnt hGr hWr hGW
            go_wp2_with fail
            refine hsame.mono ?_
            rintro e w9 ⟨rfl, hb9⟩
            clear hsame hGk
            go_wp2_with fail
            go_ret
            exact ⟨rfl, below_then (below_then hbr (below_drewN _ _) (Nat.le_refl _)) hb9 (Nat.le_refl _)⟩
          | cons y r =>
            obtain ⟨yf, yt, yA, yn, yc, yl, yb⟩ := y
            have hyr := hN.raw _ (List.mem_cons_self ..)
            simp only [Fl.v] at hyr
            have hdel := deliver_ok w.heap.size g 100 _ k G.length 0 (⟨yf, yt, yA, yn, yc, yl, yb⟩ :: r) wr hN hbr.size (by omega) (by omega) (by omega) (by omega) 0 (by simp)
            replace hdel : Calls Try.prog 17 #[.pointer (some ⟨g, 0, none⟩), .int .i64 0] wr fun e w' => e = .returned (.tuple #[.agg #[.int .i64 yf, .int .i64 yt, .slice yA yn yc], .int .i64 0]) ∧ ∃ A2 c2, NetAt w.heap.size g 100 (.slice A2 r.length c2) k (G.length + 1) 0 r w' ∧ Kept (fun k => k = g) wr w' := hdel
            rw [List.length_cons] at hlen hsum
            have hpos : (0 : Int) < ((r.length + 1 : Nat) : Int) := by omega
            clear hN7 hfl2 hfl2l ho5 ho7 ho7' hk7 hW2rd
            have HK := Lib.hid hk
            clear hk
            go_wp2_with fail
            refine hlen.mono ?_
            rintro e w' ⟨rfl, hw'⟩
            rw [hw']
            clear hw' hlen
            go_wp2_with fail
            refine hdel.mono ?_
            rintro e w8 ⟨rfl, A8', c8', hN8, hk8⟩
            have hb8 := below_kept hbr hk8 (fun k e => by omega)
            have hu8 := own_net hu hN (by decide) hk8
            have hyr8 := own_net hyr.2 hN (by decide) hk8
            have hraw8 := fun x hx => And.intro (hraw x hx).1 (own_net (hraw x hx).2 hN (by decide) hk8)
            obtain ⟨w9, hw9⟩ : ∃ w9, w9 = w8.alloc (.cells #[.int .i64 yf, .int .i64 yt, .slice yA yn yc] 38) := ⟨_, rfl⟩
            have hb89 : Below w8.heap.size w8 w9 := by rw [hw9]; exact (Below.refl _ _).alloc (Nat.le_refl _) _
            have h9 : w9.heap[w8.heap.size]? = some (.cells #[.int .i64 yf, .int .i64 yt, .slice yA yn yc] 38 (0, 0)) := by rw [hw9]; exact heap_alloc_new _ _
            have x0 : w9.cell? ⟨w8.heap.size, 0, none⟩ = some (.int .i64 yf) := by rw [cell_of_row _ _ _ _ _ _ h9]; rfl
            have x1 : w9.cell? ⟨w8.heap.size, 1, none⟩ = some (.int .i64 yt) := by rw [cell_of_row _ _ _ _ _ _ h9]; rfl
            have x2 : w9.cell? ⟨w8.heap.size, 2, none⟩ = some (.slice yA yn yc) := by rw [cell_of_row _ _ _ _ _ _ h9]; rfl
            obtain ⟨w10, hw10⟩ : ∃ w10, w10 = w9.alloc (.cells #[.int .i64 yf, .int .i64 yt, .slice yA yn yc] 38) := ⟨_, rfl⟩
            have hb910 : Below w9.heap.size w9 w10 := by rw [hw10]; exact (Below.refl _ _).alloc (Nat.le_refl _) _
            have h10 : w10.heap[w9.heap.size]? = some (.cells #[.int .i64 yf, .int .i64 yt, .slice yA yn yc] 38 (0, 0)) := by rw [hw10]; exact heap_alloc_new _ _
            have hb810 := below_then hb89 hb910 (Nat.le_refl _)
            have hu10 := own_below hu8 hb810
            have hN10 := hN8.below hb810
            have hk10 := (HK.out.trans hk8).below hb810
            have HW9 := Lib.hid hw9
            have HW10 := Lib.hid hw10
            have HKY := Lib.hid hkey.symm
            have HYL := Lib.hid hyr.1
            clear hw9 hw10 hdel hu hN hyr hraw hkey
            go_upto_region 22 with fail
            rw [← HW9.out]
            go_wp2_with (first
              | (at_builtin; go_loud (rw [← HW10.out]; refine wpList_app2 elt38 rfl (.tmp 110) (.tmp 112) rfl w7.heap.size (.slice uA G.length uc) G.length _ rfl hu10 (some ⟨w9.heap.size, 0, none⟩) 1 1 [.int .i64 yf, .int .i64 yt, .slice yA yn yc] rfl rfl (rd_lits h10) (by simp [Value.oneCell']) (by unfold maxLen; omega) (by omega) hk10.size ?_; intro v' w11 ho11 hg11 hn11))
              | fail)
            obtain ⟨vA, vc, rfl, _⟩ := RdC.of_own ho11
            have hGl : (G ++ [(⟨yf, yt, yA, yn, yc, yl, yb⟩ : Fl)]).length = G.length + 1 := by simp
            refine ⟨⟨G ++ [⟨yf, yt, yA, yn, yc, yl, yb⟩], vA, vc, A8', c8', r, by rw [hGl], ?_, ?_, ?_, ?_, ?_⟩, by simp [slcLen]; omega⟩
            · rw [hGl, apC_append]; exact ho11
            · rw [hGl]; exact hN10.grown hu10 hg11
            · rw [HKY.out]; simp
            · intro x hx
              rcases List.mem_append.1 hx with hx | hx
              · exact ⟨(hraw8 x hx).1, own_grown (own_below (hraw8 x hx).2 hb810) hu10 (by decide) hg11⟩
              · obtain rfl := List.mem_singleton.1 hx
                exact ⟨HYL.out, own_grown (own_below hyr8 hb810) hu10 (by decide) hg11⟩
            · exact ⟨hg11.os.trans hk10.os, hg11.tape.trans hk10.tape, hg11.output.trans hk10.output, Nat.le_trans hk10.size hg11.size, fun b hb he => (hg11.block b (Nat.lt_of_lt_of_le hb hk10.size) (fun e => by have := (hu10.lt b e.symm).1; omega)).trans (hk10.block b hb he)⟩
end Go.Proofs.Ytfojlmnlolnilaa
