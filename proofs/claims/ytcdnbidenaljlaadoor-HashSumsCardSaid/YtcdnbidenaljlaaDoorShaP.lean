/- SHA-256 over plain numbers: words, a block's words, a round, a state behind blocks, the hash of bytes. No program is in sight. -/
import Derived.Test.YtcdnbidenaljlaaDoorB
namespace Go.Proofs.YtcdnbidenaljlaaDoor

def rr (x k : Nat) : Nat := x * 2 ^ (32 - k) % 4294967296 ||| x / 2 ^ k
def add32 (a b : Nat) : Nat := (a + b) % 4294967296
def low0 (a : Nat) : Nat := rr a 7 ^^^ rr a 18 ^^^ a / 8
def high0 (b : Nat) : Nat := rr b 17 ^^^ rr b 19 ^^^ b / 1024
def nxt (p : List Nat) (i : Nat) : Nat := add32 (add32 (add32 (p.getD (i - 16) 0) (low0 (p.getD (i - 15) 0))) (p.getD (i - 7) 0)) (high0 (p.getD (i - 2) 0))
def beW (x : List UInt8) (i : Nat) : Nat := (x.getD (4 * i) 0).toNat * 16777216 + (x.getD (4 * i + 1) 0).toNat * 65536 + (x.getD (4 * i + 2) 0).toNat * 256 + (x.getD (4 * i + 3) 0).toNat
def wrd (x : List UInt8) (p : List Nat) (i : Nat) : Nat := if i < 16 then beW x i else nxt p i
def sched (x : List UInt8) : Nat → List Nat
  | 0 => []
  | i + 1 => sched x i ++ [wrd x (sched x i) i]
structure S8 where
  a : Nat
  b : Nat
  c : Nat
  d : Nat
  e : Nat
  f : Nat
  g : Nat
  h : Nat
def S8.l (s : S8) : List Nat := [s.a, s.b, s.c, s.d, s.e, s.f, s.g, s.h]
def S8.ok (s : S8) : Prop := s.a < 4294967296 ∧ s.b < 4294967296 ∧ s.c < 4294967296 ∧ s.d < 4294967296 ∧ s.e < 4294967296 ∧ s.f < 4294967296 ∧ s.g < 4294967296 ∧ s.h < 4294967296
def chW (e f g : Nat) : Nat := e &&& f ^^^ (4294967295 - e) &&& g
def majW (a b c : Nat) : Nat := a &&& b ^^^ a &&& c ^^^ b &&& c
def sig1 (e : Nat) : Nat := rr e 6 ^^^ rr e 11 ^^^ rr e 25
def sig0 (a : Nat) : Nat := rr a 2 ^^^ rr a 13 ^^^ rr a 22
def oneW (s : S8) (k w : Nat) : Nat := add32 (add32 (add32 (add32 s.h (sig1 s.e)) (chW s.e s.f s.g)) k) w
def twoW (s : S8) : Nat := add32 (sig0 s.a) (majW s.a s.b s.c)
def rnd (s : S8) (k w : Nat) : S8 := ⟨add32 (oneW s k w) (twoW s), s.a, s.b, s.c, add32 s.d (oneW s k w), s.e, s.f, s.g⟩
def ks : List Nat := [0x428a2f98, 0x71374491, 0xb5c0fbcf, 0xe9b5dba5, 0x3956c25b, 0x59f111f1, 0x923f82a4, 0xab1c5ed5,
  0xd807aa98, 0x12835b01, 0x243185be, 0x550c7dc3, 0x72be5d74, 0x80deb1fe, 0x9bdc06a7, 0xc19bf174,
  0xe49b69c1, 0xefbe4786, 0x0fc19dc6, 0x240ca1cc, 0x2de92c6f, 0x4a7484aa, 0x5cb0a9dc, 0x76f988da,
  0x983e5152, 0xa831c66d, 0xb00327c8, 0xbf597fc7, 0xc6e00bf3, 0xd5a79147, 0x06ca6351, 0x14292967,
  0x27b70a85, 0x2e1b2138, 0x4d2c6dfc, 0x53380d13, 0x650a7354, 0x766a0abb, 0x81c2c92e, 0x92722c85,
  0xa2bfe8a1, 0xa81a664b, 0xc24b8b70, 0xc76c51a3, 0xd192e819, 0xd6990624, 0xf40e3585, 0x106aa070,
  0x19a4c116, 0x1e376c08, 0x2748774c, 0x34b0bcb5, 0x391c0cb3, 0x4ed8aa4a, 0x5b9cca4f, 0x682e6ff3,
  0x748f82ee, 0x78a5636f, 0x84c87814, 0x8cc70208, 0x90befffa, 0xa4506ceb, 0xbef9a3f7, 0xc67178f2]
def rds (ws : List Nat) (s : S8) : Nat → S8
  | 0 => s
  | i + 1 => rnd (rds ws s i) (ks.getD i 0) (ws.getD i 0)
def add8 (s t : S8) : S8 := ⟨add32 t.a s.a, add32 t.b s.b, add32 t.c s.c, add32 t.d s.d, add32 t.e s.e, add32 t.f s.f, add32 t.g s.g, add32 t.h s.h⟩
def mixedS (s : S8) (x : List UInt8) : S8 := add8 s (rds (sched x 64) s 64)
def S8.begin : S8 := ⟨0x6a09e667, 0xbb67ae85, 0x3c6ef372, 0xa54ff53a, 0x510e527f, 0x9b05688c, 0x1f83d9ab, 0x5be0cd19⟩
/-- The state behind the first k blocks. -/
def hs (l : List UInt8) : Nat → S8
  | 0 => S8.begin
  | k + 1 => mixedS (hs l k) ((l.drop (64 * k)).take 64)
def be8 (n : Nat) : List UInt8 := [UInt8.ofNat (n / 72057594037927936), UInt8.ofNat (n / 281474976710656), UInt8.ofNat (n / 1099511627776), UInt8.ofNat (n / 4294967296), UInt8.ofNat (n / 16777216), UInt8.ofNat (n / 65536), UInt8.ofNat (n / 256), UInt8.ofNat n]
def noughts (n : Nat) : Nat := (119 - n % 64) % 64
def tailB (n : Nat) : List UInt8 := 128 :: List.replicate (noughts n) 0 ++ be8 (8 * n)
def padB (l : List UInt8) : List UInt8 := l ++ tailB l.length
def be4 (n : Nat) : List UInt8 := [UInt8.ofNat (n / 16777216), UInt8.ofNat (n / 65536), UInt8.ofNat (n / 256), UInt8.ofNat n]
def S8.bytes (s : S8) : List UInt8 := be4 s.a ++ be4 s.b ++ be4 s.c ++ be4 s.d ++ be4 s.e ++ be4 s.f ++ be4 s.g ++ be4 s.h
def sha (l : List UInt8) : List UInt8 := (hs (padB l) ((padB l).length / 64)).bytes

theorem rr_lt (x k : Nat) (hx : x < 4294967296) : rr x k < 4294967296 := by
  unfold rr
  have h1 : x / 2 ^ k < 2 ^ 32 := Nat.lt_of_le_of_lt (Nat.div_le_self _ _) hx
  have h2 : x * 2 ^ (32 - k) % 4294967296 < 2 ^ 32 := Nat.mod_lt _ (by omega)
  exact Nat.or_lt_two_pow h2 h1
theorem add32_lt (a b : Nat) : add32 a b < 4294967296 := Nat.mod_lt _ (by omega)
theorem xor_lt {a b : Nat} (ha : a < 4294967296) (hb : b < 4294967296) : a ^^^ b < 4294967296 := Nat.xor_lt_two_pow (n := 32) ha hb
theorem and_lt {a b : Nat} (ha : a < 4294967296) : a &&& b < 4294967296 := Nat.lt_of_le_of_lt Nat.and_le_left ha
theorem low0_lt (a : Nat) (h : a < 4294967296) : low0 a < 4294967296 := xor_lt (xor_lt (rr_lt _ _ h) (rr_lt _ _ h)) (Nat.lt_of_le_of_lt (Nat.div_le_self _ _) h)
theorem high0_lt (a : Nat) (h : a < 4294967296) : high0 a < 4294967296 := xor_lt (xor_lt (rr_lt _ _ h) (rr_lt _ _ h)) (Nat.lt_of_le_of_lt (Nat.div_le_self _ _) h)
theorem sig0_lt (a : Nat) (h : a < 4294967296) : sig0 a < 4294967296 := xor_lt (xor_lt (rr_lt _ _ h) (rr_lt _ _ h)) (rr_lt _ _ h)
theorem sig1_lt (a : Nat) (h : a < 4294967296) : sig1 a < 4294967296 := xor_lt (xor_lt (rr_lt _ _ h) (rr_lt _ _ h)) (rr_lt _ _ h)
theorem beW_lt (x : List UInt8) (i : Nat) : beW x i < 4294967296 := by
  unfold beW
  have := (x.getD (4 * i) 0).toNat_lt
  have := (x.getD (4 * i + 1) 0).toNat_lt
  have := (x.getD (4 * i + 2) 0).toNat_lt
  have := (x.getD (4 * i + 3) 0).toNat_lt
  omega
theorem wrd_lt (x : List UInt8) (p : List Nat) (i : Nat) : wrd x p i < 4294967296 := by
  unfold wrd
  split
  · exact beW_lt _ _
  · exact add32_lt _ _
theorem sched_length (x : List UInt8) (i : Nat) : (sched x i).length = i := by
  induction i with
  | zero => rfl
  | succ i ih => simp [sched, ih]
theorem sched_lt (x : List UInt8) (i : Nat) : ∀ n ∈ sched x i, n < 4294967296 := by
  induction i with
  | zero => intro n h; simp [sched] at h
  | succ i ih =>
    intro n h
    rcases List.mem_append.1 h with h | h
    · exact ih n h
    · rw [List.mem_singleton.1 h]; exact wrd_lt _ _ _
theorem sched_get (x : List UInt8) (n i : Nat) (h : i < n) : (sched x n).getD i 0 = wrd x (sched x i) i := by
  induction n with
  | zero => omega
  | succ n ih =>
    rw [List.getD_eq_getElem?_getD]
    by_cases e : i = n
    · subst e
      simp only [sched]
      rw [List.getElem?_append_right (by rw [sched_length]; omega), sched_length]
      simp
    · simp only [sched]
      rw [List.getElem?_append_left (by rw [sched_length]; omega), ← List.getD_eq_getElem?_getD]
      exact ih (by omega)
theorem rnd_ok (s : S8) (k w : Nat) (h : s.ok) : (rnd s k w).ok := by
  obtain ⟨h1, h2, h3, h4, h5, h6, h7, h8⟩ := h
  exact ⟨add32_lt _ _, h1, h2, h3, add32_lt _ _, h5, h6, h7⟩
theorem rds_ok (ws : List Nat) (s : S8) (n : Nat) (h : s.ok) : (rds ws s n).ok := by
  induction n with
  | zero => exact h
  | succ n ih => exact rnd_ok _ _ _ ih
theorem mixedS_ok (s : S8) (x : List UInt8) : (mixedS s x).ok := ⟨add32_lt _ _, add32_lt _ _, add32_lt _ _, add32_lt _ _, add32_lt _ _, add32_lt _ _, add32_lt _ _, add32_lt _ _⟩
theorem begin_ok : S8.begin.ok := ⟨by decide, by decide, by decide, by decide, by decide, by decide, by decide, by decide⟩
theorem hs_ok (l : List UInt8) (k : Nat) : (hs l k).ok := by
  cases k with
  | zero => exact begin_ok
  | succ k => exact mixedS_ok _ _
theorem bytes_length (s : S8) : s.bytes.length = 32 := rfl
theorem sha_length (l : List UInt8) : (sha l).length = 32 := rfl
theorem hs_app (l m : List UInt8) (k : Nat) (h : 64 * k ≤ l.length) : hs (l ++ m) k = hs l k := by
  induction k with
  | zero => rfl
  | succ k ih =>
    show mixedS (hs (l ++ m) k) _ = mixedS (hs l k) _
    rw [ih (by omega), List.drop_append_of_le_length (by omega), List.take_append_of_le_length (by rw [List.length_drop]; omega)]
theorem tailB_length (n : Nat) : (tailB n).length = 9 + noughts n := by simp [tailB, be8]; omega
theorem padB_mod (l : List UInt8) : (padB l).length % 64 = 0 := by
  simp only [padB, List.length_append, tailB_length]
  unfold noughts
  omega
end Go.Proofs.YtcdnbidenaljlaaDoor
