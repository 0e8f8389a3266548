/- Ids of texts: what Parse says; the reference's digit; results of which one lies in memory. -/
import Derived.Test.YtcdnbidenaljlaaHashT
namespace Go.Proofs.Ytcdnbidenaljlaa
open Go.RowKit

/-- The number of a digit; -1: it is none. -/
def digN (c : UInt8) : Int := if 48 ≤ c.toNat ∧ c.toNat ≤ 57 then (c.toNat : Int) - 48 else if 97 ≤ c.toNat ∧ c.toNat ≤ 102 then (c.toNat : Int) - 87 else -1
theorem digN_lt (c : UInt8) : digN c < 16 := by unfold digN; split <;> (try split) <;> omega
theorem digN_ge (c : UInt8) : -1 ≤ digN c := by unfold digN; split <;> (try split) <;> omega
theorem index_dig_nat : ∀ n, n < 256 → Lib.indexByte digs (UInt8.ofNat n) = digN (UInt8.ofNat n) := by decide +kernel
theorem index_dig (c : UInt8) : Lib.indexByte digs c = digN c := by
  have := index_dig_nat c.toNat c.toNat_lt
  rwa [UInt8.ofNat_toNat] at this
/-- A text's id: of each two digits one byte. -/
def byteOf (a b : UInt8) : UInt8 := UInt8.ofNat (16 * (digN a).toNat + (digN b).toNat)
def pairB (s : List UInt8) (k : Nat) : List UInt8 := (List.range k).map fun j => byteOf (s.getD (2 * j) 0) (s.getD (2 * j + 1) 0)
def okB (s : List UInt8) : Bool := s.length == 64 && s.all fun c => decide (0 ≤ digN c)
def parseL (s : List UInt8) : List UInt8 := if okB s = true then pairB s 32 else List.replicate 32 0
def parseE (s : List UInt8) : Int := if okB s = true then 0 else 30
theorem pairB_length (s : List UInt8) (k : Nat) : (pairB s k).length = k := by simp [pairB]
theorem parseL_length (s : List UInt8) : (parseL s).length = 32 := by
  unfold parseL
  split
  · exact pairB_length s 32
  · simp
theorem digit_any (c : UInt8) (w : World) :
    Calls Try.prog 19 #[.int .u8 (c.toNat : Int)] w fun e w' => e = .returned (.int .i64 (digN c)) ∧ w = w' := by
  have hc8 := c.toNat_lt
  obtain ⟨x, hx⟩ : ∃ x, x = c.toNat := ⟨_, rfl⟩
  unfold digN
  rw [← hx] at hc8 ⊢
  clear hx
  by_cases h1 : 48 ≤ x ∧ x ≤ 57
  · rw [if_pos h1]
    obtain ⟨a1, a2⟩ := h1
    go_enter Try.func19, Try.ntmps19
    go_wp2
    go_ret
    exact ⟨by simp, rfl⟩
  rw [if_neg h1]
  by_cases h2 : 97 ≤ x ∧ x ≤ 102
  · rw [if_pos h2]
    obtain ⟨a1, a2⟩ := h2
    have a3 : ¬ x ≤ 57 := by omega
    go_enter Try.func19, Try.ntmps19
    go_wp2
    go_ret
    exact ⟨by simp; omega, rfl⟩
  rw [if_neg h2]
  by_cases h3 : x < 48
  · go_enter Try.func19, Try.ntmps19
    go_wp2
    go_ret
    exact ⟨rfl, rfl⟩
  have a3 : ¬ x ≤ 57 := by omega
  by_cases h4 : x < 97
  · go_enter Try.func19, Try.ntmps19
    go_wp2
    go_ret
    exact ⟨rfl, rfl⟩
  · have a4 : ¬ x ≤ 102 := by omega
    go_enter Try.func19, Try.ntmps19
    go_wp2
    go_ret
    exact ⟨rfl, rfl⟩
theorem results_cell_tmp {P : Program} {fn : Func} {p q : Tmp} {ty : TypeId} (h : fn.results = #[.cell p ty, .tmp q]) (tmps : Array Value) (w : World) (g : Nat) (t : TypeId) (cs : Array Value) (fr : Nat × Nat) (d : TypeDesc)
    (hp : tmps.getD p undef = .pointer (some ⟨g, 0, none⟩)) (hg : w.heap[g]? = some (.cells cs t fr))
    (hu : P.underlying ty = some d) (hd : (match d with | .struct _ | .array _ _ => true | _ => false) = true) (hi : (P.info? ty).map (·.size) = some cs.size) :
    (results fn tmps).run P w = .ok (.tuple #[.agg cs, tmps.getD q undef]) w := by
  have hp' : tmps[p]?.getD undef = .pointer (some ⟨g, 0, none⟩) := by simpa using hp
  simp [results, h, hp', asAddr, run_loadVar_row w g t ty cs fr d hg hu hd hi]
def zeros : List UInt8 := List.replicate 32 0
theorem zero_id : (Try.prog.info? 23).bind (fun i => i.zero.map Value.cells) = some (idC zeros) := by kernel_rfl
theorem idC_set (l : List UInt8) (k : Nat) (b : UInt8) : idC (l.set k b) = (idC l).setIfInBounds k (.int .u8 (b.toNat : Int)) := by
  apply Array.ext'
  simp [idC, u8v, List.map_set]
def partB (s : List UInt8) (k : Nat) : List UInt8 := pairB s k ++ List.replicate (32 - k) 0
theorem partB_length (s : List UInt8) (k : Nat) (h : k ≤ 32) : (partB s k).length = 32 := by simp [partB, pairB_length]; omega
theorem partB_zero (s : List UInt8) : partB s 0 = zeros := by simp [partB, pairB, zeros]
theorem partB_full (s : List UInt8) : partB s 32 = pairB s 32 := by simp [partB]
theorem partB_set (s : List UInt8) (k : Nat) (h : k < 32) : (partB s k).set k (byteOf (s.getD (2 * k) 0) (s.getD (2 * k + 1) 0)) = partB s (k + 1) := by
  have e : pairB s (k + 1) = pairB s k ++ [byteOf (s.getD (2 * k) 0) (s.getD (2 * k + 1) 0)] := by simp [pairB, List.range_succ]
  unfold partB
  rw [e, show 32 - k = (32 - (k + 1)) + 1 by omega, List.replicate_succ, List.set_append_right _ _ (by rw [pairB_length]; exact Nat.le_refl _), pairB_length, Nat.sub_self, List.set_cons_zero, List.append_assoc]
  rfl
end Go.Proofs.Ytcdnbidenaljlaa
