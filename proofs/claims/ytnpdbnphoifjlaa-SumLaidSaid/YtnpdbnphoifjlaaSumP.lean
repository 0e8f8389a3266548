/- Plain functions for the chapter on sums: the register of CRC-32, step by step, and byte by byte. No program in sight. -/
import Derived.Test.YtnpdbnphoifjlaaB
namespace Go.Proofs.Ytnpdbnphoifjlaa
open Go.RowKit

def poly : Nat := 3988292384
/-- One step of the register. -/
def stepN (n : Nat) : Nat := (n / 2) ^^^ (if n % 2 = 1 then poly else 0)
def iterN : Nat → Nat → Nat | 0, n => n | k+1, n => stepN (iterN k n)
def rowN (n : Nat) : Nat := iterN 8 n
/-- A byte goes in. -/
def byteN (n : Nat) (c : UInt8) : Nat := (n / 256) ^^^ rowN ((n % 256) ^^^ c.toNat)
def overN (n : Nat) (l : List UInt8) : Nat := l.foldl byteN n
def onN (s : Nat) (l : List UInt8) : Nat := 4294967295 - overN (4294967295 - s) l
def ofN (L : List (List UInt8)) : Nat := L.foldl onN 0

theorem and_lt32 (a b : Nat) (h : a < 4294967296) : a &&& b < 4294967296 := Nat.lt_of_le_of_lt Nat.and_le_left h
theorem xor_lt32 (a b : Nat) (h : a < 4294967296) (h' : b < 4294967296) : a ^^^ b < 4294967296 := Nat.xor_lt_two_pow (n := 32) h h'
theorem stepN_lt (n : Nat) (h : n < 4294967296) : stepN n < 4294967296 := by
  unfold stepN poly
  refine xor_lt32 _ _ (by omega) ?_
  split <;> omega
theorem iterN_lt (k n : Nat) (h : n < 4294967296) : iterN k n < 4294967296 := by
  induction k with
  | zero => exact h
  | succ k ih => exact stepN_lt _ ih
theorem rowN_lt (n : Nat) (h : n < 4294967296) : rowN n < 4294967296 := iterN_lt 8 n h
theorem xor_lt8 (a b : Nat) (h : a < 256) (h' : b < 256) : a ^^^ b < 256 := Nat.xor_lt_two_pow (n := 8) h h'
theorem byteN_lt (n : Nat) (c : UInt8) (h : n < 4294967296) : byteN n c < 4294967296 := by
  unfold byteN
  refine xor_lt32 _ _ (by omega) (rowN_lt _ ?_)
  have := xor_lt8 (n % 256) c.toNat (by omega) c.toNat_lt
  omega
theorem overN_lt (l : List UInt8) (n : Nat) (h : n < 4294967296) : overN n l < 4294967296 := by
  induction l generalizing n with
  | nil => exact h
  | cons c l ih => exact ih _ (byteN_lt n c h)
theorem onN_lt (s : Nat) (l : List UInt8) : onN s l < 4294967296 := by unfold onN; omega
theorem ofN_lt (L : List (List UInt8)) : ofN L < 4294967296 := by
  unfold ofN
  rcases List.eq_nil_or_concat L with rfl | ⟨L', x, rfl⟩
  · simp
  · rw [List.concat_eq_append, List.foldl_append]; exact onN_lt _ _
theorem overN_snoc (n : Nat) (l : List UInt8) (k : Nat) (h : k < l.length) : overN n (l.take (k + 1)) = byteN (overN n (l.take k)) l[k] := by
  unfold overN
  rw [List.take_add_one, List.foldl_append]
  simp [h]
theorem step_eq (n : Nat) (h : n < 4294967296) : bits BinOp.xor IntKind.u32 ((n:Int) / 2) (bits BinOp.and IntKind.u32 3988292384 (-bits BinOp.and IntKind.u32 (n:Int) 1 % 4294967296)) = (stepN n : Nat) := by
  have h1 : bits BinOp.and IntKind.u32 (n:Int) 1 = ((n % 2 : Nat) : Int) := by
    have := u32_and_nat n 1 h (by omega)
    rw [show n &&& 1 = n % 2 from Nat.and_two_pow_sub_one_eq_mod n 1] at this
    exact this
  rw [h1]
  have h2 : -((n % 2 : Nat) : Int) % 4294967296 = ((if n % 2 = 1 then 4294967295 else 0 : Nat) : Int) := by split <;> omega
  rw [h2]
  have h3 : bits BinOp.and IntKind.u32 3988292384 ((if n % 2 = 1 then 4294967295 else 0 : Nat) : Int) = ((if n % 2 = 1 then poly else 0 : Nat) : Int) := by
    have := u32_and_nat 3988292384 (if n % 2 = 1 then 4294967295 else 0) (by omega) (by split <;> omega)
    refine Eq.trans this (congrArg _ ?_)
    split
    · exact Nat.and_two_pow_sub_one_eq_mod 3988292384 32
    · simp
  rw [h3]
  have h4 := u32_xor_nat (n / 2) (if n % 2 = 1 then poly else 0) (by omega) (by unfold poly; split <;> omega)
  exact h4
end Go.Proofs.Ytnpdbnphoifjlaa
