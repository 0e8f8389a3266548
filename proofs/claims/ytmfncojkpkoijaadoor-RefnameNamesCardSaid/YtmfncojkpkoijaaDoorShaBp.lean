/- Ids and their texts: one is the other's. No program is in sight. -/
import Derived.Test.YtmfncojkpkoijaaDoorHashP
namespace Go.Proofs.YtmfncojkpkoijaaDoor

theorem hexD_nat : ∀ n, n < 16 → digN (hexD n) = (n : Int) := by decide +kernel
theorem digN_back : ∀ n, n < 256 → 0 ≤ digN (UInt8.ofNat n) → hexD (digN (UInt8.ofNat n)).toNat = UInt8.ofNat n := by decide +kernel
theorem digN_hex (c : UInt8) (h : 0 ≤ digN c) : hexD (digN c).toNat = c := by
  have := digN_back c.toNat c.toNat_lt
  rw [UInt8.ofNat_toNat] at this
  exact this h
theorem textB_get0 (a : List UInt8) (j : Nat) (h : j < a.length) : (textB a).getD (2 * j) 0 = hexD (a[j].toNat / 16) ∧ (textB a).getD (2 * j + 1) 0 = hexD (a[j].toNat % 16) := by
  induction a generalizing j with
  | nil => simp at h
  | cons c a ih =>
    have e : textB (c :: a) = hexD (c.toNat / 16) :: hexD (c.toNat % 16) :: textB a := rfl
    rw [e]
    cases j with
    | zero => exact ⟨rfl, rfl⟩
    | succ j =>
      have := ih j (by simpa using h)
      exact this
theorem hexD_ok (n : Nat) (h : n < 16) : 0 ≤ digN (hexD n) := by rw [hexD_nat n h]; omega
theorem textB_ok (a : List UInt8) : ∀ c ∈ textB a, 0 ≤ digN c := by
  intro c hc
  unfold textB at hc
  obtain ⟨x, _, hx⟩ := List.mem_flatMap.1 hc
  have := x.toNat_lt
  simp only [List.mem_cons, List.not_mem_nil, or_false] at hx
  rcases hx with rfl | rfl
  · exact hexD_ok _ (by omega)
  · exact hexD_ok _ (by omega)
theorem parse_text (a : List UInt8) (ha : a.length = 32) : parseL (textB a) = a ∧ parseE (textB a) = 0 := by
  have hok : okB (textB a) = true := by
    unfold okB
    rw [textB_length, ha, Bool.and_eq_true]
    exact ⟨rfl, List.all_eq_true.2 fun c hc => by simpa using textB_ok a c hc⟩
  unfold parseL parseE
  rw [if_pos hok, if_pos hok]
  refine ⟨List.ext_getElem (by rw [pairB_length, ha]) fun j h1 h2 => ?_, rfl⟩
  have hj := textB_get0 a j h2
  simp only [pairB, List.getElem_map, List.getElem_range]
  rw [hj.1, hj.2]
  unfold byteOf
  have := (a[j]).toNat_lt
  rw [hexD_nat _ (by omega), hexD_nat _ (by omega)]
  have e : 16 * ((a[j].toNat / 16 : Nat) : Int).toNat + ((a[j].toNat % 16 : Nat) : Int).toNat = a[j].toNat := by omega
  rw [e, UInt8.ofNat_toNat]
theorem text_parse (s : List UInt8) (h : okB s = true) : textB (parseL s) = s := by
  unfold okB at h
  rw [Bool.and_eq_true] at h
  have hl : s.length = 64 := by simpa using h.1
  have hall := List.all_eq_true.1 h.2
  have hok : okB s = true := by unfold okB; rw [Bool.and_eq_true]; exact h
  unfold parseL
  rw [if_pos hok]
  have hpl : (pairB s 32).length = 32 := pairB_length s 32
  refine List.ext_getElem (by rw [textB_length, hpl, hl]) fun i h1 h2 => ?_
  have hd : ∀ i (hi : i < s.length), 0 ≤ digN s[i] ∧ digN s[i] < 16 := fun i hi => ⟨by simpa using hall _ (List.getElem_mem hi), digN_lt _⟩
  obtain ⟨j, hj⟩ : ∃ j, j = i / 2 := ⟨_, rfl⟩
  have hj32 : j < 32 := by omega
  have hg := textB_get0 (pairB s 32) j (by omega)
  have hv : (pairB s 32)[j]'(by omega) = byteOf (s.getD (2 * j) 0) (s.getD (2 * j + 1) 0) := by simp [pairB]
  have k1 : 2 * j < s.length := by omega
  have k2 : 2 * j + 1 < s.length := by omega
  have e1 : s.getD (2 * j) 0 = s[2 * j] := by rw [List.getD_eq_getElem?_getD, List.getElem?_eq_getElem k1]; rfl
  have e2 : s.getD (2 * j + 1) 0 = s[2 * j + 1] := by rw [List.getD_eq_getElem?_getD, List.getElem?_eq_getElem k2]; rfl
  have hb : (byteOf s[2 * j] s[2 * j + 1]).toNat = 16 * (digN s[2 * j]).toNat + (digN s[2 * j + 1]).toNat := by
    unfold byteOf
    rw [UInt8.toNat_ofNat']
    have := hd _ k1
    have := hd _ k2
    omega
  rw [hv, e1, e2, hb] at hg
  have d1 := hd _ k1
  have d2 := hd _ k2
  have g1 : (16 * (digN s[2 * j]).toNat + (digN s[2 * j + 1]).toNat) / 16 = (digN s[2 * j]).toNat := by omega
  have g2 : (16 * (digN s[2 * j]).toNat + (digN s[2 * j + 1]).toNat) % 16 = (digN s[2 * j + 1]).toNat := by omega
  rw [g1, g2, digN_hex _ d1.1, digN_hex _ d2.1] at hg
  have hii : i = 2 * j ∨ i = 2 * j + 1 := by omega
  have hgi : (textB (pairB s 32)).getD i 0 = (textB (pairB s 32))[i] := by rw [List.getD_eq_getElem?_getD, List.getElem?_eq_getElem h1]; rfl
  rw [← hgi]
  rcases hii with rfl | rfl
  · exact hg.1
  · exact hg.2
end Go.Proofs.YtmfncojkpkoijaaDoor
