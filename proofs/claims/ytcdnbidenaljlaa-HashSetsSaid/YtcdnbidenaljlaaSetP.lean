/- Plain: sets of ids. -/
import Derived.Test.YtcdnbidenaljlaaSetI
import Derived.Test.YtcdnbidenaljlaaOrd
namespace Go.Proofs.Ytcdnbidenaljlaa
open Go.Lib

theorem cmp_neg3 : ∀ (a b : List UInt8), Lib.compareBytes b a = - Lib.compareBytes a b
  | [], [] => by decide
  | [], _ :: _ => by simp [Lib.compareBytes]
  | _ :: _, [] => by simp [Lib.compareBytes]
  | c :: a, d :: b => by
    rw [Lib.compareBytes, Lib.compareBytes, cmp_neg3 a b]
    have hlt : c < d ↔ c.toNat < d.toNat := UInt8.lt_iff_toNat_lt
    have hgt : d < c ↔ d.toNat < c.toNat := UInt8.lt_iff_toNat_lt
    by_cases k1 : c < d
    · have k2 : ¬ d < c := fun x => by have := hlt.1 k1; have := hgt.1 x; omega
      rw [if_pos k1, if_neg k2, if_pos k1]; rfl
    · rw [if_neg k1, if_neg k1]
      by_cases k2 : d < c
      · rw [if_pos k2, if_pos k2]
      · rw [if_neg k2, if_neg k2]
def Ltc (a b : List UInt8) : Prop := Lib.compareBytes a b < 0
theorem ltc_irr (x : List UInt8) : ¬ Ltc x x := by unfold Ltc; rw [cmp_same]; decide
theorem ltc_tr (x y z : List UInt8) (h1 : Ltc x y) (h2 : Ltc y z) : Ltc x z := (cmp_trans x y z (Int.le_of_lt h1) (Int.le_of_lt h2)).2 (.inl h1)
theorem ltc_tr1 (x y z : List UInt8) (h1 : Ltc x y) (h2 : ¬ Ltc z y) : Ltc x z := by
  unfold Ltc at *
  have := cmp_neg3 z y
  exact (cmp_trans x y z (by omega) (by omega)).2 (.inl h1)
theorem ltc_tr2 (x y z : List UInt8) (h1 : ¬ Ltc y x) (h2 : Ltc y z) : Ltc x z := by
  unfold Ltc at *
  have := cmp_neg3 y x
  exact (cmp_trans x y z (by omega) (by omega)).2 (.inr h2)
theorem ltc_tot (x y : List UInt8) (hx : x.length = 32) (hy : y.length = 32) (h1 : ¬ Ltc x y) (h2 : ¬ Ltc y x) : x = y := by
  unfold Ltc at *
  have := cmp_neg3 x y
  exact cmp_eq0 x y (by omega) (by omega)
theorem ltc_tot2 (x y : List UInt8) (hx : x.length = 32) (hy : y.length = 32) (h1 : ¬ Ltc x y) (h2 : x ≠ y) : Ltc y x := Classical.byContradiction fun h => h2 (ltc_tot x y hx hy h1 h)
theorem rise_pw {L : List (List UInt8)} : Rise L ↔ L.Pairwise Ltc := by
  rw [List.pairwise_iff_getElem]
  exact Iff.rfl
structure IsSet (O L : List (List UInt8)) : Prop where
  rise : Rise O
  mem : ∀ x, x ∈ O ↔ x ∈ L
theorem IsSet.uniq {O O' L : List (List UInt8)} (h : IsSet O L) (k : IsSet O' L) : O = O' := pw_ext ltc_irr ltc_tr O O' (rise_pw.1 h.rise) (rise_pw.1 k.rise) fun x => (h.mem x).trans (k.mem x).symm
theorem IsSet.len32 {O L : List (List UInt8)} (h : IsSet O L) (h32 : ∀ x ∈ L, x.length = 32) : ∀ x ∈ O, x.length = 32 := fun x hx => h32 x ((h.mem x).1 hx)
theorem isSet_nil : IsSet [] [] := ⟨rise_pw.2 List.Pairwise.nil, fun _ => Iff.rfl⟩
theorem IsSet.skip {O L : List (List UInt8)} {k : Nat} (hk : k < L.length) (h : IsSet O (L.take k)) (hx : L[k] ∈ O) : IsSet O (L.take (k + 1)) := ⟨h.rise, fun x => by
  rw [List.take_succ_eq_append_getElem hk, List.mem_append, List.mem_singleton, h.mem]
  constructor
  · exact .inl
  · rintro (h' | rfl)
    · exact h'
    · exact (h.mem _).1 hx⟩
theorem IsSet.ins {O L : List (List UInt8)} {k at_ : Nat} (hk : k < L.length) (h32 : ∀ x ∈ L, x.length = 32) (h : IsSet O (L.take k)) (hx : L[k] ∉ O) (ha : at_ ≤ O.length) (hlo : ∀ i (hi : i < O.length), i < at_ → Lib.compareBytes O[i] L[k] < 0) (hhi : ∀ h : at_ < O.length, ¬ Lib.compareBytes O[at_] L[k] < 0) :
    IsSet (O.take at_ ++ [L[k]] ++ O.drop at_) (L.take (k + 1)) := by
  obtain ⟨h1, h2⟩ := ins_pw (lt := Ltc) (p := fun x => x.length = 32) ltc_tr ltc_tot2 O (rise_pw.1 h.rise) (fun y hy => h32 y (List.mem_of_mem_take ((h.mem y).1 hy))) L[k] (h32 _ (List.getElem_mem hk)) hx at_ ha hlo hhi
  rw [List.append_assoc, List.singleton_append]
  refine ⟨rise_pw.2 h1, fun x => ?_⟩
  rw [h2, h.mem, List.take_succ_eq_append_getElem hk, List.mem_append, List.mem_singleton]
end Go.Proofs.Ytcdnbidenaljlaa
