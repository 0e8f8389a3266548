/- Ids of 32 bytes as a type; their order is a strict weak one. -/
import Derived.Test.YtcdnbidenaljlaaDoorMHashNames16
import Derived.Shelf.SlSortCmp.KitK
namespace Go.Proofs.YtcdnbidenaljlaaDoor
open Go.RowKit Go.Sort Go.Lib Go.Shelf

def Id32 : Type := { l : List UInt8 // l.length = 32 }
instance : Inhabited Id32 := ⟨⟨List.replicate 32 0, rfl⟩⟩
def encId (x : Id32) : List Value := u8v x.1
theorem encId_len (x : Id32) : (encId x).length = 32 := by unfold encId; rw [u8v_length, x.2]
theorem encId_one (x : Id32) : ∀ v ∈ encId x, v.oneCell' = true := u8v_one _
def cfId (x y : Id32) : Int := Lib.compareBytes x.1 y.1
theorem cmp_negs : ∀ (a b : List UInt8), Lib.compareBytes b a = - Lib.compareBytes a b
  | [], [] => by decide
  | [], _ :: _ => by simp [Lib.compareBytes]
  | _ :: _, [] => by simp [Lib.compareBytes]
  | c :: a, d :: b => by
    rw [Lib.compareBytes, Lib.compareBytes, cmp_negs a b]
    have hlt : c < d ↔ c.toNat < d.toNat := UInt8.lt_iff_toNat_lt
    have hgt : d < c ↔ d.toNat < c.toNat := UInt8.lt_iff_toNat_lt
    by_cases k1 : c < d
    · have k2 : ¬ d < c := fun x => by have := hlt.1 k1; have := hgt.1 x; omega
      rw [if_pos k1, if_neg k2, if_pos k1]; rfl
    · rw [if_neg k1, if_neg k1]
      by_cases k2 : d < c
      · rw [if_pos k2, if_pos k2]
      · rw [if_neg k2, if_neg k2]
theorem ltId (x y : Id32) : Go.Proofs.ltOf cfId x y = decide (Lib.compareBytes x.1 y.1 < 0) := rfl
theorem swoId : SWO (Go.Proofs.ltOf cfId) where
  irrefl x := by rw [ltId, cmp_same]; rfl
  trans x y z h1 h2 := by
    rw [ltId] at *
    simp only [decide_eq_true_eq] at *
    exact (cmp_trans _ _ _ (Int.le_of_lt h1) (Int.le_of_lt h2)).2 (.inl h1)
  ntrans x y z h1 h2 := by
    rw [ltId] at *
    simp only [decide_eq_false_iff_not] at *
    have n1 := cmp_negs x.1 y.1
    have n2 := cmp_negs y.1 z.1
    have n3 := cmp_negs x.1 z.1
    have := (cmp_trans z.1 y.1 x.1 (by omega) (by omega)).1
    omega
theorem cmpLaysId (blk off size : Nat) (w : World) : Go.Proofs.CmpLays Tryd.prog 16 #[] encId 32 cfId blk off size w := fun _ _ _ _ x y => compare_grow x.1 y.1 x.2 y.2 _
end Go.Proofs.YtcdnbidenaljlaaDoor
