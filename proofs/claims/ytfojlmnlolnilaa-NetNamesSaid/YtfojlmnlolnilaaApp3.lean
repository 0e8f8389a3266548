/- 'append' to a row of one's own: what it was before is still there. No program in sight. -/
import Derived.Test.YtfojlmnlolnilaaNetA
import Derived.Test.YtfojlmnlolnilaaApp
namespace Go.Proofs.Ytfojlmnlolnilaa
open Go.RowKit

section
variable {P : Program} {t e : TypeId} {size bytes : Nat} {z : Value}
theorem run_app3 (E : Elt P t e size bytes z) (ty : TypeId) (w : World) (base : Nat) (v : Value) (n : Nat) (xs : List Value) (hown : w.ownsRow base e size v n xs) (b : Addr) (m c : Nat) (news : List Value) (hm : 0 < m)
    (hl : news.length = m * size) (hr : RdC w (some b) news) (h1 : ∀ u ∈ news, u.oneCell' = true) (h63 : n + m ≤ maxLen) (hbytes : (n + m) * bytes ≤ 140737488355328) (hbase : base ≤ w.heap.size) :
    ∃ v' w', (Builtin.append_ #[t, t] ty #[v, .slice (some b) m c]).run P w = .ok v' w' ∧ w'.ownsRow base e size v' (n + m) (xs ++ news) ∧ w.grownBy w' v.ownBlock ∧ w'.ownsRow base e size v n xs := by
  obtain ⟨i, hi, hz, hz1, hz2⟩ := info_parts E.hi
  subst hz1 hz2
  have hnews : ∀ j u, news[j]? = some u → w.cell? (b.add j) = some u := fun j u hj => by obtain ⟨_, e, hc⟩ := hr j u hj; cases e; exact hc
  have hlen : (xs ++ news).length = (n + m) * i.size := by rw [List.length_append, hown.1, hl, Nat.add_mul]
  rcases hown.2 with ⟨rfl, rfl⟩ | ⟨g, cap, cur, rfl, hbg, hg, hnc, hcm, hcs, htake⟩
  · have hx : xs = [] := List.eq_nil_of_length_eq_zero (by simpa using hown.1)
    subst hx
    obtain ⟨v', w', h2, h3, h4⟩ := run_app_new E ty w none 0 0 [] (by simp) (RdC.nil _ _) (fun _ => ⟨rfl, rfl⟩) b m c news hl hr (by omega) h63 hbytes
    exact ⟨v', w', h2, own_mono h3 hbase, grownBy_of_below h4 _, own_below hown h4⟩
  · by_cases hroom : n + m ≤ cap
    · have hfit : n * i.size + news.length ≤ cur.size := by rw [hl, hcs, ← Nat.add_mul]; exact Nat.mul_le_mul_right _ hroom
      have hr' := run_append_room (P := P) w t ty e i E.ht hi g n cap cur hg b m c news hl hnews h1 hroom hfit
      have hcl : cur.toList.length = cur.size := Array.length_toList
      have hnew : ∀ l : List Value, l = cur.toList.take (n * i.size) ++ news ++ cur.toList.drop (n * i.size + news.length) → l.length = cap * i.size ∧ l.take ((n + m) * i.size) = xs ++ news ∧ l.take (n * i.size) = xs := fun l hll => by
        have hx2 : cur.toList.take (n * i.size) = xs := htake
        rw [hx2] at hll
        subst hll
        refine ⟨?_, ?_, ?_⟩
        · simp only [List.length_append, List.length_drop, hown.1, hcl]
          omega
        · exact List.take_left' (by rw [List.length_append, hown.1, hl, Nat.add_mul])
        · rw [List.append_assoc]
          exact List.take_left' (by rw [hown.1])
      obtain ⟨q1, q2, q3⟩ := hnew _ rfl
      refine ⟨_, _, hr', ⟨hlen, .inr ⟨g, cap, _, rfl, hbg, setRow_heap w g cur _ e _ hg, hroom, hcm, ?_, ?_⟩⟩, ⟨rfl, rfl, rfl, by simp, fun k _ hk => setRow_other w g k _ (fun e => hk (by simp [Value.ownBlock, e]))⟩, ⟨hown.1, .inr ⟨g, cap, _, rfl, hbg, setRow_heap w g cur _ e _ hg, hnc, hcm, ?_, ?_⟩⟩⟩
      · rw [List.size_toArray]; exact q1
      · exact q2
      · rw [List.size_toArray]; exact q1
      · exact q3
    · obtain ⟨A', c', e1, _, _, hro, _⟩ := RdC.of_own hown
      cases e1
      obtain ⟨v', w', h2, h3, h4⟩ := run_app_new E ty w (some ⟨g, 0, none⟩) n cap xs hown.1 hro (fun h => by cases h) b m c news hl hr (by omega) h63 hbytes
      exact ⟨v', w', h2, own_mono h3 hbase, grownBy_of_below h4 _, own_below hown h4⟩
end
end Go.Proofs.Ytfojlmnlolnilaa
