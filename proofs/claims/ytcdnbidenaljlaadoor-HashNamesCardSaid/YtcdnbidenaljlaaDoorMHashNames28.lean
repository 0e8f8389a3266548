/- hash.Set. -/
import Derived.Test.YtcdnbidenaljlaaDoorMHashNames26
import Derived.Test.YtcdnbidenaljlaaDoorMHashNames15
import Derived.Shelf.SlSortCmp.NoneTotal
namespace Go.Proofs.YtcdnbidenaljlaaDoor
open Go.RowKit Go.Lib Go.Shelf

theorem isSet_compact {L' L : List (List UInt8)} (h32 : ∀ x ∈ L, x.length = 32) (ha : Asc L') (hp : L'.Perm L) : IsSet (compact L') L ∧ (compact L').length ≤ L.length := by
  obtain ⟨h1, h2, h3⟩ := compact_pw (lt := Ltc) (p := fun x => x.length = 32) ltc_tr1 ltc_tr2 ltc_tot L' (fun x hx => h32 x (hp.mem_iff.1 hx)) fun i j hi hj hij => ha i j hi hj hij
  exact ⟨⟨rise_pw.2 h1, fun x => (h2 x).trans hp.mem_iff⟩, by rw [← hp.length_eq]; exact h3⟩
theorem sortnone_any (A : Option Addr) (c : Nat) (w : World) : Calls Tryd.prog 32 #[.slice A 0 c, .func (.func 16) #[] #[]] w fun e w' => e = .returned (.tuple #[]) ∧ w' = w :=
  Go.Proofs.AnyF.slices_SortFunc_none Go.Proofs.Tryd.sortId A c _ w
theorem compact_none (A : Option Addr) (c : Nat) (w : World) : Calls Tryd.prog 33 #[.slice A 0 c] w fun e w' => e = .returned (.slice A 0 c) ∧ w' = w := by
  go_enter Tryd.func33, Tryd.ntmps33
  go_wp2_with fail
  go_ret
  exact ⟨rfl, rfl⟩
set_option maxRecDepth 100000 in
theorem set_any (A : Option Addr) (n c : Nat) (L : List (List UInt8)) (hL : L.length = n) (h32 : ∀ x ∈ L, x.length = 32) (hn : n ≤ 1000000) (w : World) (hr : RdC w A (idsC L)) :
    Calls Tryd.prog 17 #[.slice A n c] w fun e w' => ∃ v O, e = .returned v ∧ IsSet O L ∧ O.length ≤ n ∧ w'.ownsRow w.heap.size 25 32 v O.length (idsC O) ∧ Below w.heap.size w w' := by
  have hcl := cloneids_any A n c L hL h32 hn w hr
  go_enter Tryd.func17, Tryd.ntmps17
  go_upto_region 1 with (fail)
  go_upto_region 2 with (first | (go_at_call 31; refine hcl.mono ?_; rintro e w1 ⟨v1, rfl, ho1, hb1⟩) | fail)
  obtain ⟨hlen, ⟨rfl, hn0⟩ | ⟨g, cap, cur, rfl, hB, hg, hc1, hc2, hs, htk⟩⟩ := ho1
  · subst hn0
    obtain rfl : L = [] := List.eq_nil_of_length_eq_zero hL
    go_wp2_with (first
      | (go_at_call 32; refine (sortnone_any _ _ _).mono ?_; rintro e w2 ⟨rfl, rfl⟩)
      | (go_at_call 33; refine (compact_none _ _ _).mono ?_; rintro e w2 ⟨rfl, rfl⟩)
      | fail)
    go_ret
    exact ⟨_, [], rfl, isSet_nil, Nat.le_refl _, World.ownsRow_nil _ _ _ _, hb1⟩
  · have hcur : cur = (idsC L ++ cur.toList.drop (n * 32)).toArray := by
      rw [← htk, List.take_append_drop]
    obtain ⟨T, hT⟩ : ∃ T, T = cur.toList.drop (n * 32) := ⟨_, rfl⟩
    have hTl : T.length = cap * 32 - n * 32 := by rw [hT, List.length_drop, Array.length_toList, hs]
    rw [← hT] at hcur
    rw [hcur] at hg
    have hst := sortrow_any g cap L h32 (by omega) T w1 hg
    rw [hL] at hst
    clear hcur hT htk hs
    go_upto_region 3 with (first
      | (go_at_call 32; refine hst.mono ?_; rintro e w2 ⟨rfl, L', hp, ha, hg2, hgr⟩)
      | fail)
    have hl' : L'.length = n := by rw [hp.length_eq, hL]
    have h32' : ∀ x ∈ L', x.length = 32 := fun x hx => h32 x (hp.mem_iff.1 hx)
    have hcp := compact_any g cap L' h32' (by omega) (by omega) hc2 T w2 hg2
    rw [hl'] at hcp
    go_wp2_with (first
      | (go_at_call 33; refine hcp.mono ?_; rintro e w3 ⟨rfl, ⟨N, hN1, hN2, hg3⟩, hre⟩)
      | fail)
    go_ret
    obtain ⟨hset, hle⟩ := isSet_compact h32 ha hp
    have h32c := hset.len32 h32
    have hlc := idsC_length _ h32c
    rw [hL] at hle
    refine ⟨_, compact L', rfl, hset, hle, ⟨hlc, .inr ⟨g, cap, _, rfl, hB, hg3, by omega, hc2, ?_, ?_⟩⟩, ?_⟩
    · have := idsC_length (compact L' ++ N) fun x hx => (List.mem_append.1 hx).elim (h32c x) (hN2 x)
      rw [List.size_toArray, List.length_append, this, hTl, List.length_append, hN1]
      have : n * 32 ≤ cap * 32 := Nat.mul_le_mul_right _ hc1
      have : (compact L').length + (n - (compact L').length) = n := by omega
      rw [this]
      omega
    · simp only [List.toList_toArray, idsC_app, List.append_assoc]
      rw [← hlc, List.take_left]
    · exact Rest.toBelow (Rest.toBelow hb1 (Rest.of_grown hgr) hB hb1.size) hre hB (by have := hb1.size; have := hgr.size; omega)
end Go.Proofs.YtcdnbidenaljlaaDoor
