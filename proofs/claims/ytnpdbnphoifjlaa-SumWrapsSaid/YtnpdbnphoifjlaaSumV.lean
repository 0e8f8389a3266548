/- What Wrap, First and Unwrap answer, both of the program and of the reference, said alike. -/
import Derived.Test.YtnpdbnphoifjlaaSumS
namespace Go.Proofs.Ytnpdbnphoifjlaa
open Go.RowKit

/-- A slice of the bytes l, in memory from B on, of the call's own. -/
def FreshS (B : Nat) (w : World) (A : Option Addr) (n : Nat) (l : List UInt8) : Prop := l.length = n ∧ RdC w A (u8v l) ∧ ∀ ad, A = some ad → 0 < n → B ≤ ad.block ∧ ad.spot = none ∧ ∀ j, j < n → w.frozen? (ad.add j) = false
theorem FreshS.of {B : Nat} {w : World} {v : Value} {l : List UInt8} (h : Fresh B w v l) : ∃ A n c, v = .slice A n c ∧ FreshS B w A n l := by
  obtain ⟨A, c, rfl, hl, hm, hr, hf⟩ := h
  exact ⟨A, l.length, c, rfl, rfl, hr, hf⟩
theorem FreshS.nil (B : Nat) (w : World) : FreshS B w none 0 [] := ⟨rfl, RdC.nil _ _, fun ad e => by cases e⟩
/-- Of whatever bytes lie there. -/
def Own8 (B : Nat) (w : World) (A : Option Addr) (n : Nat) : Prop := ∀ j, j < n → ∃ g o, A = some ⟨g, o, none⟩ ∧ B ≤ g ∧ (∃ z : UInt8, w.cell? ⟨g, o + j, none⟩ = some (.int .u8 (z.toNat : Int))) ∧ w.frozen? ⟨g, o + j, none⟩ = false
theorem FreshS.own {B B' : Nat} {w : World} {A : Option Addr} {n : Nat} {l : List UInt8} (h : FreshS B w A n l) (hB : B' ≤ B) : Own8 B' w A n := by
  obtain ⟨rfl, hr, hf⟩ := h
  intro j hj
  obtain ⟨ad, rfl, hc⟩ := cell_of_rd hr j hj
  obtain ⟨h1, h2, h3⟩ := hf ad rfl (by omega)
  obtain ⟨g, o, s⟩ := ad
  simp only at h1 h2
  subst h2
  rw [addr_add_plain] at hc
  have := h3 j hj
  rw [addr_add_plain] at this
  exact ⟨g, o, rfl, by omega, ⟨_, hc⟩, this⟩
theorem Own8.below {B : Nat} {w w1 : World} {A : Option Addr} {n : Nat} (h : Own8 B w A n) (hb : Below w.heap.size w w1) : Own8 B w1 A n := by
  intro j hj
  obtain ⟨g, o, e, h1, ⟨z, h2⟩, h3⟩ := h j hj
  have hg : g < w.heap.size := World.block_lt_of_cell? w _ h2
  exact ⟨g, o, e, h1, ⟨z, (hb.cell (p := ⟨g, o + j, none⟩) hg).trans h2⟩, (hb.frozen (p := ⟨g, o + j, none⟩) hg).trans h3⟩
theorem Own8.store {B : Nat} {w : World} {A : Option Addr} {n : Nat} (h : Own8 B w A n) (a : Addr) (z : UInt8) : Own8 B (w.setCell a (.int .u8 (z.toNat : Int))) A n := by
  intro j hj
  obtain ⟨g, o, e, h1, ⟨y, h2⟩, h3⟩ := h j hj
  refine ⟨g, o, e, h1, ?_, by rw [World.frozen?_setCell]; exact h3⟩
  by_cases ha : a = ⟨g, o + j, none⟩
  · subst ha
    exact ⟨z, by rw [World.cell?_setCell_same _ _ _ h2]⟩
  · exact ⟨y, (World.cell?_setCell_other _ _ _ _ ha).trans h2⟩

def ulB (b : List UInt8) : List UInt8 := (unwrapB b).getD []
def uoB (b : List UInt8) : Int := if (unwrapB b).isSome then 0 else 20
def flB (b : List UInt8) : List UInt8 := ((firstB b).map (·.1)).getD []
def frB (b : List UInt8) : List UInt8 := ((firstB b).map (·.2)).getD []
def foB (b : List UInt8) : Int := if (firstB b).isSome then 0 else 20
theorem unwrap_uni (A : Option Addr) (n c : Nat) (b : List UInt8) (hn0 : b.length = n) (w : World) (hr : RdC w A (u8v b)) (hl2 : n ≤ 140737488355328) (hc : n ≤ c) :
    Calls Try.prog 19 #[.slice A n c] w fun e w' => (∃ A n c, e = .returned (.tuple #[.slice A n c, .int .i64 (uoB b)]) ∧ FreshS w.heap.size w' A n (ulB b)) ∧ Below w.heap.size w w' :=
  (unwrap_any A n c b hn0 w hr hl2 hc).mono fun e w' h => by
    rcases h with ⟨x, v, hx, rfl, hf, hb⟩ | ⟨hx, rfl, hb⟩
    · obtain ⟨A', n', c', rfl, hf2⟩ := FreshS.of hf
      exact ⟨⟨_, _, _, by rw [uoB, hx]; rfl, by rw [ulB, hx]; exact hf2⟩, hb⟩
    · exact ⟨⟨_, _, _, by rw [uoB, hx]; rfl, by rw [ulB, hx]; exact FreshS.nil _ _⟩, hb⟩
theorem runwrap_uni (A : Option Addr) (n c : Nat) (b : List UInt8) (hn0 : b.length = n) (w : World) (hr : RdC w A (u8v b)) (hl2 : n ≤ 140737488355328) (hc : n ≤ c) :
    Calls Try.prog 20 #[.slice A n c] w fun e w' => (∃ A n c, e = .returned (.tuple #[.slice A n c, .int .i64 (uoB b)]) ∧ (ulB b).length = n ∧ RdC w' A (u8v (ulB b))) ∧ Below w.heap.size w w' :=
  (runwrap_any A n c b hn0 w hr hl2 hc).mono fun e w' h => by
    rcases h with ⟨x, v, hx, rfl, hf, hb⟩ | ⟨hx, rfl, hb⟩
    · obtain ⟨A', c', rfl, _, _, hr', _⟩ := RdC.of_own hf
      exact ⟨⟨_, _, _, by rw [uoB, hx]; rfl, by rw [ulB, hx]; rfl, by rw [ulB, hx]; exact hr'⟩, hb⟩
    · exact ⟨⟨_, _, _, by rw [uoB, hx]; rfl, by rw [ulB, hx]; rfl, by rw [ulB, hx]; exact RdC.nil _ _⟩, hb⟩
theorem first_uni (A : Option Addr) (n c : Nat) (b : List UInt8) (hn0 : b.length = n) (w : World) (hr : RdC w A (u8v b)) (hl2 : n ≤ 140737488355328) (hc : n ≤ c) :
    Calls Try.prog 17 #[.slice A n c] w fun e w' => (∃ A n c A2 n2 c2, e = .returned (.tuple #[.slice A n c, .slice A2 n2 c2, .int .i64 (foB b)]) ∧ FreshS w.heap.size w' A n (flB b) ∧ FreshS w.heap.size w' A2 n2 (frB b)) ∧ Below w.heap.size w w' :=
  (first_any A n c b hn0 w hr hl2 hc).mono fun e w' h => by
    rcases h with ⟨x, r, v1, v2, hx, rfl, hf1, hf2, hb⟩ | ⟨hx, rfl, hb⟩
    · obtain ⟨_, _, _, rfl, hg1⟩ := FreshS.of hf1
      obtain ⟨_, _, _, rfl, hg2⟩ := FreshS.of hf2
      exact ⟨⟨_, _, _, _, _, _, by rw [foB, hx]; rfl, by rw [flB, hx]; exact hg1, by rw [frB, hx]; exact hg2⟩, hb⟩
    · exact ⟨⟨_, _, _, _, _, _, by rw [foB, hx]; rfl, by rw [flB, hx]; exact FreshS.nil _ _, by rw [frB, hx]; exact FreshS.nil _ _⟩, hb⟩
theorem firstB_rest {b x r : List UInt8} (h : firstB b = some (x, r)) : b.drop (x.length + 8) = r ∧ x.length + 8 ≤ b.length := by
  unfold firstB at h
  split at h
  · cases h
  split at h
  · cases h
  split at h
  · cases h
  rename_i h1 h2 h3
  simp only [Option.some.injEq, Prod.mk.injEq] at h
  obtain ⟨rfl, rfl⟩ := h
  have : ((b.drop 4).take (numB b)).length = numB b := by simp; omega
  rw [this]
  exact ⟨by rw [Nat.add_comm], by omega⟩
theorem rfirst_uni (A : Option Addr) (n c : Nat) (b : List UInt8) (hn0 : b.length = n) (w : World) (hr : RdC w A (u8v b)) (hl2 : n ≤ 140737488355328) (hc : n ≤ c) :
    Calls Try.prog 21 #[.slice A n c] w fun e w' => (∃ A n' c to, e = .returned (.tuple #[.slice A n' c, .int .i64 ((to : Nat) : Int), .int .i64 (foB b)]) ∧ (flB b).length = n' ∧ RdC w' A (u8v (flB b)) ∧ ((foB b = 0 ∧ b.drop to = frB b ∧ to ≤ n) ∨ (foB b = 20 ∧ frB b = []))) ∧ Below w.heap.size w w' :=
  (rfirst_any A n c b hn0 w hr hl2 hc).mono fun e w' h => by
    rcases h with ⟨x, r, v, hx, hlen, rfl, hf, hb⟩ | ⟨hx, rfl, hb⟩
    · obtain ⟨A', c', rfl, _, _, hr', _⟩ := RdC.of_own hf
      have := firstB_rest hx
      exact ⟨⟨_, _, _, x.length + 8, by rw [foB, hx]; rfl, by rw [flB, hx]; rfl, by rw [flB, hx]; exact hr', .inl ⟨by rw [foB, hx]; rfl, by rw [frB, hx]; exact this.1, by omega⟩⟩, hb⟩
    · exact ⟨⟨_, _, _, 0, by rw [foB, hx]; rfl, by rw [flB, hx]; rfl, by rw [flB, hx]; exact RdC.nil _ _, .inr ⟨by rw [foB, hx]; rfl, by rw [frB, hx]; rfl⟩⟩, hb⟩
end Go.Proofs.Ytnpdbnphoifjlaa
