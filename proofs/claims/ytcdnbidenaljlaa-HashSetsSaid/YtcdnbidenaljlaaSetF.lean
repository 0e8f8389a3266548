/- Lists of ids as literals and under append. -/
import Derived.Test.YtcdnbidenaljlaaSetE
import Derived.Test.YtcdnbidenaljlaaHashP
import Derived.Great.Walk
namespace Go.Proofs.Ytcdnbidenaljlaa
open Go.RowKit Go.Great

def idsC (L : List (List UInt8)) : List Value := L.flatMap u8v
theorem idsC_length (L : List (List UInt8)) (h : ∀ x ∈ L, x.length = 32) : (idsC L).length = L.length * 32 := by
  induction L with
  | nil => rfl
  | cons x L ih =>
    have := ih fun y hy => h y (List.mem_cons_of_mem _ hy)
    simp only [idsC, List.flatMap_cons, List.length_append, List.length_cons, u8v_length] at this ⊢
    rw [this, h x (List.mem_cons_self ..)]
    omega
theorem idsC_app (L M : List (List UInt8)) : idsC (L ++ M) = idsC L ++ idsC M := by simp [idsC]
theorem idsC_one (L : List (List UInt8)) : ∀ u ∈ idsC L, u.oneCell' = true := fun u hu => by
  obtain ⟨x, _, hx⟩ := List.mem_flatMap.1 hu
  exact u8v_one x u hx
theorem idsC_get (L : List (List UInt8)) (h : ∀ x ∈ L, x.length = 32) (k : Nat) (hk : k < L.length) (j : Nat) (hj : j < 32) : (idsC L)[k * 32 + j]? = (u8v L[k])[j]? := by
  induction L generalizing k with
  | nil => simp at hk
  | cons x L ih =>
    have hx : (u8v x).length = 32 := by rw [u8v_length, h x (List.mem_cons_self ..)]
    have e : idsC (x :: L) = u8v x ++ idsC L := rfl
    rw [e]
    cases k with
    | zero => rw [Nat.zero_mul, Nat.zero_add, List.getElem?_append_left (by omega)]; rfl
    | succ k =>
      rw [List.getElem?_append_right (by omega), hx, show (k + 1) * 32 + j - 32 = k * 32 + j by omega]
      exact ih (fun y hy => h y (List.mem_cons_of_mem _ hy)) k (by simpa using hk)
/-- A row of ids is a list of ids that is read. -/
theorem RdIds.of_row {w : World} {A : Option Addr} {L : List (List UInt8)} (h : ∀ x ∈ L, x.length = 32) (hr : RdC w A (idsC L)) (hA : ∀ ad, A = some ad → ad = ⟨ad.block, ad.off, none⟩) : RdIds w A L := fun k hk => by
  have hl : (u8v L[k]).length = 32 := by rw [u8v_length, h _ (List.getElem_mem hk)]
  have h0 := idsC_get L h k hk 0 (by omega)
  obtain ⟨v0, hv0⟩ : ∃ v, (u8v L[k])[0]? = some v := ⟨_, List.getElem?_eq_getElem (l := u8v L[k]) (i := 0) (by omega)⟩
  rw [hv0] at h0
  obtain ⟨ad, e, _⟩ := hr _ _ h0
  have e2 := hA ad e
  refine ⟨ad.block, ad.off, by rw [e]; exact congrArg some e2, fun j v hj => ?_⟩
  have hj32 : j < 32 := by rw [← hl]; exact (List.getElem?_eq_some_iff.1 hj).1
  have h1 := idsC_get L h k hk j hj32
  rw [hj] at h1
  obtain ⟨ad', e', hc⟩ := hr _ _ h1
  rw [e] at e'
  obtain rfl := Option.some.inj e'
  rw [e2] at hc
  rw [addr_add_plain] at hc
  rw [Nat.add_assoc]
  exact hc
theorem elt_id : Elt Try.prog 32 23 32 32 (.agg (idC zeros)) := ⟨Try.underlying32, by kernel_rfl, by rw [show (Value.agg (idC zeros)).cells = idC zeros from rfl, idC_size]; rfl, by omega⟩
theorem zero_idc : (Try.prog.info? 23).map (fun i => (i.zero.map Value.cells, i.size)) = some (some (idC zeros), 32) := by kernel_rfl
theorem built_id1 (x : List UInt8) (h : x.length = 32) (parts : List (Nat × Value)) (hp : parts = [(0, Value.agg (idC x))]) :
    Try.prog.builtSlice 23 1 parts = some (idC x) := by
  obtain ⟨ie, hie, hzc⟩ : ∃ ie, Try.prog.info? 23 = some ie ∧ (ie.zero.map Value.cells, ie.size) = (some (idC zeros), 32) := by
    have := zero_idc
    cases hq : Try.prog.info? 23 with
    | none => rw [hq] at this; cases this
    | some i => rw [hq] at this; exact ⟨i, rfl, by simpa using this⟩
  obtain ⟨hz, hs⟩ := Prod.mk.inj hzc
  unfold Program.builtSlice
  rw [hie]
  simp only []
  cases hzz : ie.zero with
  | none => rw [hzz] at hz; cases hz
  | some z =>
    simp only []
    rw [hs, if_neg (by omega), hp]
    have hm : ∀ v ∈ [Value.agg (idC x)], v.cells.size = 32 := fun v hv => by
      obtain rfl := List.mem_singleton.1 hv
      show (idC x).size = 32
      rw [idC_size, h]
    have := Great.fill_whole (s := 32) (by omega) [Value.agg (idC x)] ((Array.range (1 * 32)).map (z.cells[· % z.cells.size]!)) hm (by simp)
    simp only [List.zipIdx_cons, List.zipIdx_nil, List.map_cons, List.map_nil] at this
    rw [this]
    congr 1
    apply Array.ext'
    simp [Value.cells]
end Go.Proofs.Ytcdnbidenaljlaa
