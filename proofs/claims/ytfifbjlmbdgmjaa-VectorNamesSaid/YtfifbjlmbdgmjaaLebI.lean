/- leb: the bytes of a number, handed out one by one. -/
import Derived.Test.YtfifbjlmbdgmjaaProg
import Derived.Test.YtfifbjlmbdgmjaaRange
namespace Go.Proofs.Ytfifbjlmbdgmjaa
open Go.RowKit Go.Shelf
attribute [local go_sem] Oper.semAt_some

/-- A number's bytes. -/
def numB (n : Nat) : List UInt8 := if n < 128 then [UInt8.ofNat n] else UInt8.ofNat (n % 128 + 128) :: numB (n / 128)
termination_by n
decreasing_by omega
theorem numB_small {n : Nat} (h : n < 128) : numB n = [UInt8.ofNat n] := by rw [numB, if_pos h]
theorem numB_big {n : Nat} (h : ¬ n < 128) : numB n = UInt8.ofNat (n % 128 + 128) :: numB (n / 128) := by rw [numB, if_neg h]
theorem numB_pos (n : Nat) : 0 < (numB n).length := by
  by_cases h : n < 128
  · rw [numB_small h]; simp
  · rw [numB_big h]; simp
def enc8 (x : UInt8) : Array Value := #[.int .u8 (x.toNat : Int)]
def cellN (p : Addr) (w : World) : Nat := match w.cell? p with
  | some (.int _ n) => n.toNat
  | _ => 0
set_option maxRecDepth 100000 in
set_option maxHeartbeats 2000000 in
theorem parts_hands (F : Fence) (n : Nat) (hF : F.fn 52) (hro : F.round = none) (hn : 1 ≤ n) (b m : Nat) (W : World) (hm : m < 18446744073709551616) (hc : W.cell? ⟨b, 0, none⟩ = some (.int .u64 (m : Int))) (hf : W.frozen? ⟨b, 0, none⟩ = false) :
    HandsOut F n Try.prog 52 #[.pointer (some ⟨b, 0, none⟩)] enc8 (numB m) ⟨b, 0, none⟩ W := by
  intro l J hJ hY h0
  have hJ2 : J [] W ∧ ∀ A, A = W → True := ⟨h0, fun _ _ => trivial⟩
  refine callsIn_of_wp Try.func52 rfl hF ?_ hro
  simp only [Try.ntmps52, List.size_toArray, List.length_cons, List.length_nil, Nat.reduceAdd, Nat.reduceSub, Array.replicate_succ, Array.replicate_zero, List.push_toArray, List.append_toArray, List.nil_append, List.cons_append]
  gi_wp2
  gi_loopw [3] (fun _ wr => ∃ (pre : List UInt8) (k : Nat), k < 18446744073709551616 ∧ wr.cell? ⟨b, 0, none⟩ = some (.int .u64 (k : Int)) ∧ wr.frozen? ⟨b, 0, none⟩ = false ∧ J pre wr ∧ pre ++ numB k = numB m) (fun _ wr => cellN ⟨b, 0, none⟩ wr)
  case atStart => exact ⟨[], m, hm, hc, hf, h0, rfl⟩
  case round =>
    obtain ⟨pre, k, hk, hck, hfk, hJs, hpre⟩ := hrel
    by_cases hlt : k < 128
    · rw [numB_small hlt] at hpre
      have hx : ((UInt8.ofNat k).toNat : Int) = (k : Int) := by rw [UInt8.toNat_ofNat', Nat.mod_eq_of_lt (by omega)]
      obtain ⟨fn, tmps, assign, body, hy, hR⟩ := hY pre (UInt8.ofNat k) wr hJs (by rw [← hpre]; simp)
      unfold enc8 at hy
      rw [hx] at hy
      clear hx hJ2
      gi_wp2
      refine hR.mono ?_
      rintro e W3 ⟨rfl, hJ3, _⟩
      rw [hpre] at hJ3
      gi_wp2
      go_end0
      exact ⟨⟨_, rfl⟩, hJ3⟩
    · rw [numB_big hlt] at hpre
      have hx : ((UInt8.ofNat (k % 128 + 128)).toNat : Int) = (k : Int) % 128 + 128 := by rw [UInt8.toNat_ofNat', Nat.mod_eq_of_lt (by omega)]; omega
      obtain ⟨fn, tmps, assign, body, hy, hR⟩ := hY pre (UInt8.ofNat (k % 128 + 128)) wr hJs (by rw [← hpre]; simp)
      unfold enc8 at hy
      rw [hx] at hy
      clear hx hJ2
      gi_wp2
      refine hR.mono ?_
      rintro e W3 ⟨rfl, hJ3, hs1, hs2⟩
      have hc3 := hs1.trans hck
      have hf3 := hs2.trans hfk
      clear hs1 hs2
      gi_wp2
      have hcn : (W3.setCell ⟨b, 0, none⟩ (.int .u64 ((k : Int) / 128))).cell? ⟨b, 0, none⟩ = some (.int .u64 ((k / 128 : Nat) : Int)) := by
        rw [World.cell?_setCell_same' _ _ _ (by rw [hc3]; rfl), Int.natCast_ediv]
        rfl
      refine ⟨⟨pre ++ [UInt8.ofNat (k % 128 + 128)], k / 128, by omega, hcn, by rw [World.frozen?_setCell]; exact hf3, hJ _ _ _ hJ3, by rw [List.append_assoc]; exact hpre⟩, ?_⟩
      unfold cellN
      rw [hcn, hck]
      simp only [Int.toNat_natCast]
      omega
theorem numB_le (n : Nat) : ∀ k, n < 128 ^ (k + 1) → (numB n).length ≤ k + 1 := by
  induction n using Nat.strongRecOn with
  | ind n ih =>
    intro k h
    by_cases hs : n < 128
    · rw [numB_small hs]; simp
    · cases k with
      | zero => simp at h; omega
      | succ k =>
        rw [numB_big hs, List.length_cons]
        have hd : n / 128 < 128 ^ (k + 1) := Nat.div_lt_of_lt_mul (by rw [Nat.pow_succ, Nat.mul_comm] at h; exact h)
        have := ih (n / 128) (by omega) k hd
        omega
theorem numB_ten (n : Nat) (h : n < 18446744073709551616) : (numB n).length ≤ 10 := numB_le n 9 (by omega)
end Go.Proofs.Ytfifbjlmbdgmjaa
