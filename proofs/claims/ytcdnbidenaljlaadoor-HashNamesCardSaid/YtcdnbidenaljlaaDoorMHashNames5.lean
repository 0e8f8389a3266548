/- Plain: rising lists: two with the same members are one; a sorted list without neighbours that are equal rises; putting in at its place. -/
import Derived.Test.YtcdnbidenaljlaaDoorMHashNames2
import Derived.Lib.SlicesCompact
namespace Go.Proofs.YtcdnbidenaljlaaDoor
open Go.Lib
section
variable {α : Type} {lt : α → α → Prop}
theorem pw_ext (irr : ∀ x, ¬ lt x x) (tr : ∀ x y z, lt x y → lt y z → lt x z) : ∀ (L M : List α), L.Pairwise lt → M.Pairwise lt → (∀ x, x ∈ L ↔ x ∈ M) → L = M
  | [], [], _, _, _ => rfl
  | [], y :: _, _, _, h => absurd ((h y).2 (List.mem_cons_self ..)) (by simp)
  | x :: _, [], _, _, h => absurd ((h x).1 (List.mem_cons_self ..)) (by simp)
  | x :: L, y :: M, hL, hM, h => by
    obtain ⟨h1, h2⟩ := List.pairwise_cons.1 hL
    obtain ⟨h3, h4⟩ := List.pairwise_cons.1 hM
    have e : x = y := by
      have hx := (h x).1 (List.mem_cons_self ..)
      have hy := (h y).2 (List.mem_cons_self ..)
      rcases List.mem_cons.1 hx with e | hx
      · exact e
      · rcases List.mem_cons.1 hy with e | hy
        · exact e.symm
        · exact absurd (tr _ _ _ (h1 _ hy) (h3 _ hx)) (irr _)
    subst e
    rw [pw_ext irr tr L M h2 h4 fun z => ?_]
    constructor
    · intro hz
      rcases List.mem_cons.1 ((h z).1 (List.mem_cons_of_mem _ hz)) with e | hz'
      · subst e; exact absurd (h1 _ hz) (irr _)
      · exact hz'
    · intro hz
      rcases List.mem_cons.1 ((h z).2 (List.mem_cons_of_mem _ hz)) with e | hz'
      · subst e; exact absurd (h3 _ hz) (irr _)
      · exact hz'
theorem pw_nodup (irr : ∀ x, ¬ lt x x) {L : List α} (h : L.Pairwise lt) : L.Nodup := by
  refine List.Pairwise.imp (fun {a b} hab => ?_) h
  intro e
  subst e
  exact irr _ hab
variable [Inhabited α] [DecidableEq α]
theorem compactUpTo_pw {p : α → Prop} (tr : ∀ x y z, lt x y → ¬ lt z y → lt x z) (tr2 : ∀ x y z, ¬ lt y x → lt y z → lt x z) (tot : ∀ x y, p x → p y → ¬ lt x y → ¬ lt y x → x = y) (d : Array α) (hp : ∀ x ∈ d.toList, p x)
    (hd : ∀ i j (hi : i < d.size) (hj : j < d.size), i < j → ¬ lt d[j] d[i]) : ∀ m, m ≤ d.size → (compactUpTo d m).Pairwise lt ∧ (∀ x, x ∈ compactUpTo d m ↔ ∃ j, ∃ hj : j < d.size, j < m ∧ d[j] = x) ∧ (compactUpTo d m).length ≤ m
  | 0, _ => by
    have : compactUpTo d 0 = [] := rfl
    rw [this]
    exact ⟨List.Pairwise.nil, fun x => ⟨fun h => by simp at h, fun ⟨j, _, h, _⟩ => by omega⟩, by simp⟩
  | m + 1, hm => by
    obtain ⟨h1, h2, h3⟩ := compactUpTo_pw tr tr2 tot d hp hd m (by omega)
    have hms : m < d.size := by omega
    have hget : d[m]! = d[m] := getElem!_pos d m hms
    rw [compactUpTo_succ]
    by_cases hk : keeps d m = true
    · rw [if_pos hk, hget]
      refine ⟨List.pairwise_append.2 ⟨h1, by simp, fun x hx y hy => ?_⟩, fun x => ?_, by simp; omega⟩
      · obtain rfl := List.mem_singleton.1 hy
        obtain ⟨j, hj, hjm, rfl⟩ := (h2 x).1 hx
        have hm0 : 0 < m := by omega
        have hm1 : m - 1 < d.size := by omega
        have hne : d[m] ≠ d[m - 1] := by
          have := of_decide_eq_true (show decide (m = 0 ∨ d[m]! ≠ d[m - 1]!) = true from hk)
          rw [hget, getElem!_pos d (m - 1) hm1] at this
          rcases this with h | h
          · omega
          · exact h
        have hpm : p d[m] := hp _ (by simp)
        have hpm1 : p d[m - 1] := hp _ (by simp)
        have hlt : lt d[m - 1] d[m] := Classical.byContradiction fun h => hne (tot _ _ hpm hpm1 (hd (m - 1) m hm1 hms (by omega)) h)
        rcases Nat.lt_or_ge j (m - 1) with h | h
        · exact tr2 _ _ _ (hd j (m - 1) hj hm1 h) hlt
        · obtain rfl : j = m - 1 := by omega
          exact hlt
      · rw [List.mem_append, h2, List.mem_singleton]
        constructor
        · rintro (⟨j, hj, hjm, rfl⟩ | rfl)
          · exact ⟨j, hj, by omega, rfl⟩
          · exact ⟨m, hms, by omega, rfl⟩
        · rintro ⟨j, hj, hjm, rfl⟩
          by_cases e : j = m
          · subst e; exact .inr rfl
          · exact .inl ⟨j, hj, by omega, rfl⟩
    · rw [if_neg hk, List.append_nil]
      refine ⟨h1, fun x => ?_, by omega⟩
      rw [h2]
      have hk' : ¬ (m = 0 ∨ d[m]! ≠ d[m - 1]!) := fun h => hk (decide_eq_true h)
      have hm0 : 0 < m := by omega
      have hm1 : m - 1 < d.size := by omega
      have he : d[m] = d[m - 1] := by
        rw [hget, getElem!_pos d (m - 1) hm1] at hk'
        exact Classical.byContradiction fun h => hk' (.inr h)
      constructor
      · rintro ⟨j, hj, hjm, rfl⟩
        exact ⟨j, hj, by omega, rfl⟩
      · rintro ⟨j, hj, hjm, rfl⟩
        by_cases e : j = m
        · subst e; exact ⟨j - 1, hm1, by omega, he.symm⟩
        · exact ⟨j, hj, by omega, rfl⟩
theorem compact_pw {p : α → Prop} (tr : ∀ x y z, lt x y → ¬ lt z y → lt x z) (tr2 : ∀ x y z, ¬ lt y x → lt y z → lt x z) (tot : ∀ x y, p x → p y → ¬ lt x y → ¬ lt y x → x = y) (L : List α) (hp : ∀ x ∈ L, p x)
    (hd : ∀ i j (hi : i < L.length) (hj : j < L.length), i < j → ¬ lt L[j] L[i]) : (compact L).Pairwise lt ∧ (∀ x, x ∈ compact L ↔ x ∈ L) ∧ (compact L).length ≤ L.length := by
  obtain ⟨h1, h2, h3⟩ := compactUpTo_pw tr tr2 tot L.toArray hp (fun i j hi hj hij => by simpa using hd i j (by simpa using hi) (by simpa using hj) hij) L.length (by simp)
  refine ⟨h1, fun x => ?_, h3⟩
  rw [show (x ∈ compact L) = (x ∈ compactUpTo L.toArray L.length) from rfl, h2]
  constructor
  · rintro ⟨j, hj, _, rfl⟩
    simp
  · intro h
    obtain ⟨j, hj, rfl⟩ := List.mem_iff_getElem.1 h
    exact ⟨j, by simpa using hj, hj, by simp⟩
omit [Inhabited α] [DecidableEq α] in
/-- An element put in at its place. -/
theorem ins_pw {p : α → Prop} (tr : ∀ x y z, lt x y → lt y z → lt x z) (tot : ∀ x y, p x → p y → ¬ lt x y → x ≠ y → lt y x) (M : List α) (hM : M.Pairwise lt) (hp : ∀ y ∈ M, p y) (x : α) (hx : p x) (hn : x ∉ M) (k : Nat) (hk : k ≤ M.length)
    (hlo : ∀ i (hi : i < M.length), i < k → lt M[i] x) (hhi : ∀ h : k < M.length, ¬ lt M[k] x) : (M.take k ++ x :: M.drop k).Pairwise lt ∧ ∀ y, y ∈ M.take k ++ x :: M.drop k ↔ y ∈ M ∨ y = x := by
  have hsplit := List.take_append_drop k M
  have hM' := hM
  rw [← hsplit] at hM'
  obtain ⟨h1, h2, h3⟩ := List.pairwise_append.1 hM'
  have hup : ∀ y ∈ M.drop k, lt x y := fun y hy => by
    obtain ⟨j, hj, rfl⟩ := List.mem_iff_getElem.1 hy
    have hkl : k < M.length := by simp at hj; omega
    have hxk : lt x M[k] := tot _ _ (hp _ (List.getElem_mem hkl)) hx (hhi hkl) fun e => hn (e ▸ List.getElem_mem hkl)
    simp only [List.getElem_drop]
    by_cases e : j = 0
    · subst e; exact hxk
    · exact tr _ _ _ hxk (List.pairwise_iff_getElem.1 hM k (k + j) hkl (by simp at hj; omega) (by omega))
  refine ⟨List.pairwise_append.2 ⟨h1, List.pairwise_cons.2 ⟨hup, h2⟩, fun a ha b hb => ?_⟩, fun y => ?_⟩
  · rcases List.mem_cons.1 hb with rfl | hb
    · obtain ⟨j, hj, rfl⟩ := List.mem_iff_getElem.1 ha
      rw [List.getElem_take]
      exact hlo _ _ (by simp at hj; omega)
    · exact h3 _ ha _ hb
  · rw [List.mem_append, List.mem_cons]
    constructor
    · rintro (h | rfl | h)
      · exact .inl (List.mem_of_mem_take h)
      · exact .inr rfl
      · exact .inl (List.mem_of_mem_drop h)
    · rintro (h | rfl)
      · rw [← hsplit] at h
        rcases List.mem_append.1 h with h | h
        · exact .inl h
        · exact .inr (.inr h)
      · exact .inr (.inl rfl)
end
end Go.Proofs.YtcdnbidenaljlaaDoor
