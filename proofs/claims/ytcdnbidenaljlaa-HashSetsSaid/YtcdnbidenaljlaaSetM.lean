/- slices.SortFunc at a row of ids of its own. -/
import Derived.Test.YtcdnbidenaljlaaSetL
import Derived.Sort.OwnSorted
namespace Go.Proofs.Ytcdnbidenaljlaa
open Go.RowKit Go.Sort Go.Lib Go.Shelf

def valId (x : Id32) : List UInt8 := x.1
def mkId (x : List UInt8) (h : x.length = 32) : Id32 := ⟨x, h⟩
theorem valId_len (x : Id32) : (valId x).length = 32 := x.2
theorem flat_ids (d : Array Id32) : (flatK encId 32 d).toList = idsC (d.toList.map valId) := by
  have hl : (idsC (d.toList.map valId)).length = d.size * 32 := by
    rw [idsC_length]
    · simp
    · intro x hx
      obtain ⟨y, _, rfl⟩ := List.mem_map.1 hx
      exact valId_len y
  apply List.ext_getElem?
  intro t
  by_cases ht : t < d.size * 32
  · have h1 := get_flatK encId 32 d t ht
    have hs : t < (flatK encId 32 d).size := by rw [size_flatK]; exact ht
    have hq : t / 32 < d.size := by omega
    have hr : t % 32 < 32 := Nat.mod_lt _ (by omega)
    have h2 := idsC_get (d.toList.map valId) (fun x hx => by obtain ⟨y, _, rfl⟩ := List.mem_map.1 hx; exact valId_len y) (t / 32) (by simpa using hq) (t % 32) hr
    rw [show t / 32 * 32 + t % 32 = t by omega] at h2
    rw [h2, Array.getElem?_toList, Array.getElem?_eq_getElem hs]
    rw [getElem!_pos _ t hs] at h1
    rw [h1, getElem!_pos d (t / 32) hq]
    have h3 : t % 32 < (encId d[t / 32]).length := by rw [encId_len]; exact hr
    rw [getElem!_pos (encId d[t / 32]) (t % 32) h3]
    simp only [List.getElem_map, Array.getElem_toList]
    exact (List.getElem?_eq_getElem h3).symm
  · rw [List.getElem?_eq_none (by rw [Array.length_toList, size_flatK]; omega), List.getElem?_eq_none (by omega)]

/-- A list of ids as an array of the type. -/
def toId (L : List (List UInt8)) (h : ∀ x ∈ L, x.length = 32) : Array Id32 := (L.attach.map fun x => mkId x.1 (h x.1 x.2)).toArray
theorem toId_list (L : List (List UInt8)) (h : ∀ x ∈ L, x.length = 32) : (toId L h).toList.map valId = L := by
  unfold toId
  rw [List.map_map]
  exact List.attach_map_subtype_val L
theorem toId_size (L : List (List UInt8)) (h : ∀ x ∈ L, x.length = 32) : (toId L h).size = L.length := by
  unfold toId
  rw [List.size_toArray, List.length_map, List.length_attach]
/-- Not falling. -/
def Asc (L : List (List UInt8)) : Prop := ∀ i j (hi : i < L.length) (hj : j < L.length), i < j → ¬ Lib.compareBytes L[j] L[i] < 0
theorem cell_row {w : World} {g : Nat} {t : TypeId} {cur : Array Value} (h : w.heap[g]? = some (.cells cur t (0, 0))) (j : Nat) : w.cell? ⟨g, j, none⟩ = cur[j]? := cell_of_row _ _ _ _ _ _ h
theorem sortrow_any (g cap : Nat) (L : List (List UInt8)) (h32 : ∀ x ∈ L, x.length = 32) (hL : L.length ≤ 1000000) (T : List Value) (w : World) (hg : w.heap[g]? = some (.cells (idsC L ++ T).toArray 23 (0, 0))) :
    Calls Try.prog 22 #[.slice (some ⟨g, 0, none⟩) L.length cap, .func (.func 9) #[] #[]] w fun e w' =>
      e = .returned (.tuple #[]) ∧ ∃ L', L'.Perm L ∧ Asc L' ∧ w'.heap[g]? = some (.cells (idsC L' ++ T).toArray 23 (0, 0)) ∧ w.grownBy w' (some g) := by
  have hlt : g < w.heap.size := (Array.getElem?_eq_some_iff.1 hg).1
  have hsz := toId_size L h32
  have hH : HoldsK encId 32 w g 0 (toId L h32) := fun j hj => by
    rw [size_flatK] at hj
    refine ⟨?_, by simp [World.frozen?, hg]⟩
    rw [Nat.zero_add, cell_row hg, getElem!_pos _ j (by rw [size_flatK]; exact hj)]
    have h1 := congrArg (fun l => l[j]?) (flat_ids (toId L h32))
    simp only [toId_list] at h1
    rw [List.getElem?_toArray, List.getElem?_append_left (by rw [idsC_length L h32]; omega), ← h1, Array.getElem?_toList]
    exact Array.getElem?_eq_getElem (by rw [size_flatK]; exact hj)
  have h := sortids_any g 0 cap (toId L h32) w hH hlt (by omega)
  rw [hsz] at h
  refine h.mono ?_
  rintro e w' ⟨rfl, d', n, os, hp, hs, rfl⟩
  have hds : d'.size = L.length := by rw [hp.1, hsz]
  have hperm : (d'.toList.map valId).Perm L := by
    have h1 := hp.2.2
    have e1 : d'.extract 0 L.length = d' := by rw [← hds]; simp
    have e2 : (toId L h32).extract 0 L.length = toId L h32 := by rw [← hsz]; simp
    rw [e1, e2] at h1
    have h2 := h1.map valId
    rwa [toId_list] at h2
  refine ⟨rfl, d'.toList.map valId, hperm, ?_, ?_, ?_⟩
  · intro i j hi hj hij hlt
    have hi' : i < d'.size := by simpa using hi
    have hj' : j < d'.size := by simpa using hj
    have := hs i j (Nat.zero_le _) hij (by omega)
    rw [getElem!_pos d' i hi', getElem!_pos d' j hj', ltId] at this
    simp only [List.getElem_map, Array.getElem_toList] at hlt
    exact absurd hlt (of_decide_eq_false this)
  · show (grow (putRow id (Sort.ahead w n) g 0 (flatK encId 32 d')) os).heap[g]? = _
    rw [heap_grow_old _ _ (by simpa using hlt)]
    have hcl : (idsC (d'.toList.map valId)).length = (idsC L).length := by
      rw [idsC_length _ h32, idsC_length]
      · simp [hds]
      · intro x hx
        exact h32 x (hperm.mem_iff.1 hx)
    have : putCells id 0 (flatK encId 32 d') (idsC L ++ T).toArray = (idsC (d'.toList.map valId) ++ T).toArray := by
      apply Array.ext_getElem?
      intro t
      have hfs : (flatK encId 32 d').size = (idsC L).length := by rw [size_flatK, hds, idsC_length L h32]
      rw [← flat_ids] at hcl ⊢
      simp only [putCells, Array.getElem?_mapIdx, Nat.zero_le, true_and, Nat.zero_add, Nat.sub_zero, List.getElem?_toArray]
      by_cases ht : t < (flatK encId 32 d').size
      · rw [List.getElem?_append_left (by omega), List.getElem?_append_left (by rw [Array.length_toList]; exact ht), List.getElem?_eq_getElem (by omega), Array.getElem?_toList, Array.getElem?_eq_getElem ht]
        have ht2 : t < d'.size * 32 := by rw [size_flatK] at ht; exact ht
        simp [ht2, getElem!_pos (flatK encId 32 d') t ht]
      · rw [List.getElem?_append_right (by omega), List.getElem?_append_right (by rw [Array.length_toList]; omega), Array.length_toList, hfs]
        have ht2 : ¬ t < d'.size * 32 := by rw [size_flatK] at ht; exact ht
        have e : (idsC L).length = d'.size * 32 := by rw [← hfs, size_flatK]
        simp [e, ht2]
    simp [putRow, mapBlock, Sort.ahead, Array.getElem?_modify, hg, onCells, this]
  · refine ⟨rfl, rfl, rfl, by simp [sortWorldK, putRowK], fun k hk hne => ?_⟩
    show (grow (putRow id (Sort.ahead w n) g 0 (flatK encId 32 d')) os).heap[k]? = _
    rw [heap_grow_old _ _ (by simpa using hk)]
    have : g ≠ k := fun e => hne (by rw [e])
    simp [putRow, mapBlock, Sort.ahead, Array.getElem?_modify, this]
end Go.Proofs.Ytcdnbidenaljlaa
