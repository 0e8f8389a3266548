/- A literal list of one id; a row of ids of one's own is a list that is read. -/
import Derived.Test.YtcdnbidenaljlaaSetP
namespace Go.Proofs.Ytcdnbidenaljlaa
open Go.RowKit Go.Great

theorem idsC_take (M : List (List UInt8)) (h : ∀ x ∈ M, x.length = 32) (T : List Value) (k : Nat) (hk : k ≤ M.length) : (idsC M ++ T).take (k * 32) = idsC (M.take k) := by
  have h1 : idsC M = idsC (M.take k) ++ idsC (M.drop k) := by rw [← idsC_app, List.take_append_drop]
  have h2 : (idsC (M.take k)).length = k * 32 := by rw [idsC_length _ fun x hx => h x (List.mem_of_mem_take hx), List.length_take, Nat.min_eq_left hk]
  rw [h1, List.append_assoc, ← h2, List.take_left]
theorem idsC_drop (M : List (List UInt8)) (h : ∀ x ∈ M, x.length = 32) (T : List Value) (k : Nat) (hk : k ≤ M.length) : (idsC M ++ T).drop (k * 32) = idsC (M.drop k) ++ T := by
  have h1 : idsC M = idsC (M.take k) ++ idsC (M.drop k) := by rw [← idsC_app, List.take_append_drop]
  have h2 : (idsC (M.take k)).length = k * 32 := by rw [idsC_length _ fun x hx => h x (List.mem_of_mem_take hx), List.length_take, Nat.min_eq_left hk]
  rw [h1, List.append_assoc, ← h2, List.drop_left]
theorem wp_id1 {o : Oper} {c : Act} {w : World} {K : Act → World → Prop} {Q : Exit → Act → World → Prop} (x : Operand) (ho : o.op = .buildSlice 32 1 #[(0, x)]) (a : List UInt8) (ha : a.length = 32) (hx : c.eval x = .agg (u8v a).toArray)
    (h : K (c.put o.dst (.slice (some ⟨w.heap.size, 0, none⟩) 1 1)) (w.alloc (.cells (u8v a).toArray 23))) : o.wp Try.prog c w K Q := by
  have hf := built_id1 a ha (#[(0, x)].map fun (i, x) => (i, c.eval x)).toList (by simp [hx, idC])
  unfold Program.builtSlice at hf
  cases hie : Try.prog.info? 23 with
  | none => simp [hie] at hf
  | some ie =>
    simp only [hie] at hf
    cases hz : ie.zero with
    | none => simp [hz] at hf
    | some z =>
      simp only [hz] at hf
      by_cases hc : 1 * ie.size > 2 ^ 24 ∨ 1 * ie.size = 0
      · simp only [hc, if_true] at hf; cases hf
      · rw [if_neg hc] at hf
        exact wp_buildSlice 32 23 1 _ ho _ ie z Try.underlying32 hie hz (fun h' => hc (Or.inl h')) (fun h' => hc (Or.inr h')) hf h
theorem own_mono3 {w : World} {B B' : Nat} {e : TypeId} {s n : Nat} {v : Value} {xs : List Value} (h : w.ownsRow B e s v n xs) (hB : B' ≤ B) : w.ownsRow B' e s v n xs := by
  refine ⟨h.1, ?_⟩
  rcases h.2 with hn | ⟨g, cap, cur, rfl, hb, rest⟩
  · exact .inl hn
  · exact .inr ⟨g, cap, cur, rfl, Nat.le_trans hB hb, rest⟩
theorem ids_of_own {w : World} {B n : Nat} {v : Value} {L : List (List UInt8)} (h32 : ∀ x ∈ L, x.length = 32) (h : w.ownsRow B 23 32 v n (idsC L)) : ∃ A c, v = .slice A n c ∧ n ≤ c ∧ c ≤ maxLen ∧ RdC w A (idsC L) ∧ RdIds w A L := by
  have hA : ∃ A c, v = .slice A n c ∧ ∀ ad, A = some ad → ad = ⟨ad.block, ad.off, none⟩ := by
    rcases h.2 with ⟨rfl, rfl⟩ | ⟨g, cap, cur, rfl, _⟩
    · exact ⟨none, 0, rfl, fun _ e => by cases e⟩
    · exact ⟨_, _, rfl, fun ad e => by cases e; rfl⟩
  obtain ⟨A, c, rfl, hA⟩ := hA
  obtain ⟨A', c', e, h1, h2, h3, _⟩ := RdC.of_own h
  cases e
  exact ⟨A, c, rfl, h1, h2, h3, RdIds.of_row h32 h3 hA⟩
end Go.Proofs.Ytcdnbidenaljlaa
