/- SHA-256: words turned: the library's RotateLeft32, the reference's right. -/
import Derived.Test.YtcdnbidenaljlaaDoorMHashNames2
import Derived.Test.YtcdnbidenaljlaaDoorProg
import Derived.Laws.BitsAllLaws
namespace Go.Proofs.YtcdnbidenaljlaaDoor
open Go.RowKit

theorem rr_or (x k : Nat) (hx : x < 4294967296) : bits .or .u32 ((x : Int) / 2 ^ k) ((x : Int) * 2 ^ (32 - k) % 4294967296) = (rr x k : Nat) := by
  have h1 : x / 2 ^ k < 4294967296 := Nat.lt_of_le_of_lt (Nat.div_le_self _ _) hx
  have h2 : x * 2 ^ (32 - k) % 4294967296 < 4294967296 := Nat.mod_lt _ (by omega)
  have := u32_or_nat (x / 2 ^ k) (x * 2 ^ (32 - k) % 4294967296) h1 h2
  rw [Nat.or_comm] at this
  unfold rr
  rw [← this]
  congr 1 <;> push_cast <;> rfl
theorem rr_or' (x k : Nat) (hx : x < 4294967296) : bits .or .u32 ((x : Int) * 2 ^ (32 - k) % 4294967296) ((x : Int) / 2 ^ k) = (rr x k : Nat) := by
  have h1 : x / 2 ^ k < 4294967296 := Nat.lt_of_le_of_lt (Nat.div_le_self _ _) hx
  have h2 : x * 2 ^ (32 - k) % 4294967296 < 4294967296 := Nat.mod_lt _ (by omega)
  have := u32_or_nat (x * 2 ^ (32 - k) % 4294967296) (x / 2 ^ k) h2 h1
  unfold rr
  rw [← this]
  congr 1 <;> push_cast <;> rfl
set_option maxHeartbeats 1000000 in
theorem right_any (x k : Nat) (hx : x < 4294967296) (h1 : 1 ≤ k) (h2 : k < 32) (w : World) :
    Calls Tryd.prog 41 #[.int .u32 (x : Int), .int .u64 (k : Int)] w fun e w' => e = .returned (.int .u32 (rr x k : Nat)) ∧ w = w' := by
  have H := Lib.hid (rr_or x k hx)
  go_enter Tryd.func41, Tryd.ntmps41
  go_wp2
  go_ret
  exact ⟨by show Ending.returned (.int .u32 _) = _; rw [H.out], rfl⟩
theorem rot_cut (k : Nat) (h1 : 1 ≤ k) (h2 : k < 32) : bits .and .u64 (IntKind.u64.wrap (-(k : Int))) 31 = ((32 - k : Nat) : Int) := by
  have e : IntKind.u64.wrap (-(k : Int)) = ((18446744073709551616 - k : Nat) : Int) := by rw [IntKind.wrap_u64]; omega
  rw [e]
  have := u64_and_nat (18446744073709551616 - k) 31 (by omega) (by omega)
  rw [nat_mask5] at this
  refine Eq.trans this ?_
  congr 1
  omega
set_option maxHeartbeats 1000000 in
theorem rotl_any (x k : Nat) (kk : Int) (hk : kk = -(k : Int)) (hx : x < 4294967296) (h1 : 1 ≤ k) (h2 : k < 32) (w : World) :
    Calls Tryd.prog 43 #[.int .u32 (x : Int), .int .i64 kk] w fun e w' => e = .returned (.int .u32 (rr x k : Nat)) ∧ w = w' := by
  have H := Lib.hid (rr_or' x k hx)
  have hb := rot_cut k h1 h2
  rw [← hk] at hb
  clear hk
  obtain ⟨m, hm⟩ : ∃ m, m = 32 - k := ⟨_, rfl⟩
  rw [← hm] at hb H
  have hm1 : 1 ≤ m := by omega
  have hm2 : m < 32 := by omega
  have hk2 : ∀ y : Int, y / 2 ^ (32 - m) = y / 2 ^ k := fun y => by rw [show 32 - m = k by omega]
  have HK := Lib.hid hk2
  clear hk2 hm h1 h2
  go_enter Tryd.func43, Tryd.ntmps43
  go_wp2
  go_ret
  exact ⟨by show Ending.returned (.int .u32 _) = _; rw [HK.out, H.out], rfl⟩
end Go.Proofs.YtcdnbidenaljlaaDoor
