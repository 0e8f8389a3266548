/- Texts of this proof, laid into one: SetP, SetS, SetX. -/
import Derived.Test.YtcdnbidenaljlaaDoorMHashGroups13
import Derived.Test.YtcdnbidenaljlaaDoorMHashGroups4
import Derived.Test.YtcdnbidenaljlaaDoorMHashGroups11
/- Plain: sets of ids. -/
namespace Go.Proofs.YtcdnbidenaljlaaDoor
open Go.Lib

theorem cmp_neg3 : ∀ (a b : List UInt8), Lib.compareBytes b a = - Lib.compareBytes a b
  | [], [] => by decide
  | [], _ :: _ => by simp [Lib.compareBytes]
  | _ :: _, [] => by simp [Lib.compareBytes]
  | c :: a, d :: b => by
    rw [Lib.compareBytes, Lib.compareBytes, cmp_neg3 a b]
    have hlt : c < d ↔ c.toNat < d.toNat := UInt8.lt_iff_toNat_lt
    have hgt : d < c ↔ d.toNat < c.toNat := UInt8.lt_iff_toNat_lt
    by_cases k1 : c < d
    · have k2 : ¬ d < c := fun x => by have := hlt.1 k1; have := hgt.1 x; omega
      rw [if_pos k1, if_neg k2, if_pos k1]; rfl
    · rw [if_neg k1, if_neg k1]
      by_cases k2 : d < c
      · rw [if_pos k2, if_pos k2]
      · rw [if_neg k2, if_neg k2]
def Ltc (a b : List UInt8) : Prop := Lib.compareBytes a b < 0
theorem ltc_irr (x : List UInt8) : ¬ Ltc x x := by unfold Ltc; rw [cmp_same]; decide
theorem ltc_tr (x y z : List UInt8) (h1 : Ltc x y) (h2 : Ltc y z) : Ltc x z := (cmp_trans x y z (Int.le_of_lt h1) (Int.le_of_lt h2)).2 (.inl h1)
theorem ltc_tr1 (x y z : List UInt8) (h1 : Ltc x y) (h2 : ¬ Ltc z y) : Ltc x z := by
  unfold Ltc at *
  have := cmp_neg3 z y
  exact (cmp_trans x y z (by omega) (by omega)).2 (.inl h1)
theorem ltc_tr2 (x y z : List UInt8) (h1 : ¬ Ltc y x) (h2 : Ltc y z) : Ltc x z := by
  unfold Ltc at *
  have := cmp_neg3 y x
  exact (cmp_trans x y z (by omega) (by omega)).2 (.inr h2)
theorem ltc_tot (x y : List UInt8) (hx : x.length = 32) (hy : y.length = 32) (h1 : ¬ Ltc x y) (h2 : ¬ Ltc y x) : x = y := by
  unfold Ltc at *
  have := cmp_neg3 x y
  exact cmp_eq0 x y (by omega) (by omega)
theorem ltc_tot2 (x y : List UInt8) (hx : x.length = 32) (hy : y.length = 32) (h1 : ¬ Ltc x y) (h2 : x ≠ y) : Ltc y x := Classical.byContradiction fun h => h2 (ltc_tot x y hx hy h1 h)
theorem rise_pw {L : List (List UInt8)} : Rise L ↔ L.Pairwise Ltc := by
  rw [List.pairwise_iff_getElem]
  exact Iff.rfl
structure IsSet (O L : List (List UInt8)) : Prop where
  rise : Rise O
  mem : ∀ x, x ∈ O ↔ x ∈ L
theorem IsSet.uniq {O O' L : List (List UInt8)} (h : IsSet O L) (k : IsSet O' L) : O = O' := pw_ext ltc_irr ltc_tr O O' (rise_pw.1 h.rise) (rise_pw.1 k.rise) fun x => (h.mem x).trans (k.mem x).symm
theorem IsSet.len32 {O L : List (List UInt8)} (h : IsSet O L) (h32 : ∀ x ∈ L, x.length = 32) : ∀ x ∈ O, x.length = 32 := fun x hx => h32 x ((h.mem x).1 hx)
theorem isSet_nil : IsSet [] [] := ⟨rise_pw.2 List.Pairwise.nil, fun _ => Iff.rfl⟩
theorem IsSet.skip {O L : List (List UInt8)} {k : Nat} (hk : k < L.length) (h : IsSet O (L.take k)) (hx : L[k] ∈ O) : IsSet O (L.take (k + 1)) := ⟨h.rise, fun x => by
  rw [List.take_succ_eq_append_getElem hk, List.mem_append, List.mem_singleton, h.mem]
  constructor
  · exact .inl
  · rintro (h' | rfl)
    · exact h'
    · exact (h.mem _).1 hx⟩
theorem IsSet.ins {O L : List (List UInt8)} {k at_ : Nat} (hk : k < L.length) (h32 : ∀ x ∈ L, x.length = 32) (h : IsSet O (L.take k)) (hx : L[k] ∉ O) (ha : at_ ≤ O.length) (hlo : ∀ i (hi : i < O.length), i < at_ → Lib.compareBytes O[i] L[k] < 0) (hhi : ∀ h : at_ < O.length, ¬ Lib.compareBytes O[at_] L[k] < 0) :
    IsSet (O.take at_ ++ [L[k]] ++ O.drop at_) (L.take (k + 1)) := by
  obtain ⟨h1, h2⟩ := ins_pw (lt := Ltc) (p := fun x => x.length = 32) ltc_tr ltc_tot2 O (rise_pw.1 h.rise) (fun y hy => h32 y (List.mem_of_mem_take ((h.mem y).1 hy))) L[k] (h32 _ (List.getElem_mem hk)) hx at_ ha hlo hhi
  rw [List.append_assoc, List.singleton_append]
  refine ⟨rise_pw.2 h1, fun x => ?_⟩
  rw [h2, h.mem, List.take_succ_eq_append_getElem hk, List.mem_append, List.mem_singleton]
end Go.Proofs.YtcdnbidenaljlaaDoor

/- A literal list of one id; a row of ids of one's own is a list that is read. -/
namespace Go.Proofs.YtcdnbidenaljlaaDoor
open Go.RowKit Go.Great

theorem idsC_take (M : List (List UInt8)) (h : ∀ x ∈ M, x.length = 32) (T : List Value) (k : Nat) (hk : k ≤ M.length) : (idsC M ++ T).take (k * 32) = idsC (M.take k) := by
  have h1 : idsC M = idsC (M.take k) ++ idsC (M.drop k) := by rw [← idsC_app, List.take_append_drop]
  have h2 : (idsC (M.take k)).length = k * 32 := by rw [idsC_length _ fun x hx => h x (List.mem_of_mem_take hx), List.length_take, Nat.min_eq_left hk]
  rw [h1, List.append_assoc, ← h2, List.take_left]
theorem idsC_drop (M : List (List UInt8)) (h : ∀ x ∈ M, x.length = 32) (T : List Value) (k : Nat) (hk : k ≤ M.length) : (idsC M ++ T).drop (k * 32) = idsC (M.drop k) ++ T := by
  have h1 : idsC M = idsC (M.take k) ++ idsC (M.drop k) := by rw [← idsC_app, List.take_append_drop]
  have h2 : (idsC (M.take k)).length = k * 32 := by rw [idsC_length _ fun x hx => h x (List.mem_of_mem_take hx), List.length_take, Nat.min_eq_left hk]
  rw [h1, List.append_assoc, ← h2, List.drop_left]
theorem wp_id1 {o : Oper} {c : Act} {w : World} {K : Act → World → Prop} {Q : Exit → Act → World → Prop} (x : Operand) (ho : o.op = .buildSlice 47 1 #[(0, x)]) (a : List UInt8) (ha : a.length = 32) (hx : c.eval x = .agg (u8v a).toArray)
    (h : K (c.put o.dst (.slice (some ⟨w.heap.size, 0, none⟩) 1 1)) (w.alloc (.cells (u8v a).toArray 25))) : o.wp Tryd.prog c w K Q := by
  have hf := built_id1 a ha (#[(0, x)].map fun (i, x) => (i, c.eval x)).toList (by simp [hx, idC])
  unfold Program.builtSlice at hf
  cases hie : Tryd.prog.info? 25 with
  | none => simp [hie] at hf
  | some ie =>
    simp only [hie] at hf
    cases hz : ie.zero with
    | none => simp [hz] at hf
    | some z =>
      simp only [hz] at hf
      by_cases hc : 1 * ie.size > 2 ^ 24 ∨ 1 * ie.size = 0
      · simp only [hc, if_true] at hf; cases hf
      · rw [if_neg hc] at hf
        exact wp_buildSlice 47 25 1 _ ho _ ie z Tryd.underlying47 hie hz (fun h' => hc (Or.inl h')) (fun h' => hc (Or.inr h')) hf h
theorem own_mono3 {w : World} {B B' : Nat} {e : TypeId} {s n : Nat} {v : Value} {xs : List Value} (h : w.ownsRow B e s v n xs) (hB : B' ≤ B) : w.ownsRow B' e s v n xs := by
  refine ⟨h.1, ?_⟩
  rcases h.2 with hn | ⟨g, cap, cur, rfl, hb, rest⟩
  · exact .inl hn
  · exact .inr ⟨g, cap, cur, rfl, Nat.le_trans hB hb, rest⟩
theorem ids_of_own {w : World} {B n : Nat} {v : Value} {L : List (List UInt8)} (h32 : ∀ x ∈ L, x.length = 32) (h : w.ownsRow B 25 32 v n (idsC L)) : ∃ A c, v = .slice A n c ∧ n ≤ c ∧ c ≤ maxLen ∧ RdC w A (idsC L) ∧ RdIds w A L := by
  have hA : ∃ A c, v = .slice A n c ∧ ∀ ad, A = some ad → ad = ⟨ad.block, ad.off, none⟩ := by
    rcases h.2 with ⟨rfl, rfl⟩ | ⟨g, cap, cur, rfl, _⟩
    · exact ⟨none, 0, rfl, fun _ e => by cases e⟩
    · exact ⟨_, _, rfl, fun ad e => by cases e; rfl⟩
  obtain ⟨A, c, rfl, hA⟩ := hA
  obtain ⟨A', c', e, h1, h2, h3, _⟩ := RdC.of_own h
  cases e
  exact ⟨A, c, rfl, h1, h2, h3, RdIds.of_row h32 h3 hA⟩
end Go.Proofs.YtcdnbidenaljlaaDoor

/- Literal lists of ids. -/
namespace Go.Proofs.YtcdnbidenaljlaaDoor
open Go.RowKit Go.Great

set_option maxRecDepth 100000 in
theorem built_ids (L : List (List UInt8)) (h : ∀ x ∈ L, x.length = 32) (h0 : L ≠ []) (hl : L.length ≤ 100) :
    Tryd.prog.builtSlice 25 L.length ((L.map fun x => Value.agg (idC x)).zipIdx.map fun x => (x.2, x.1)) = some (idsC L).toArray := by
  obtain ⟨ie, hie, hzc⟩ : ∃ ie, Tryd.prog.info? 25 = some ie ∧ (ie.zero.map Value.cells, ie.size) = (some (idC zeros), 32) := by
    have := zero_idc
    cases hq : Tryd.prog.info? 25 with
    | none => rw [hq] at this; cases this
    | some i => rw [hq] at this; exact ⟨i, rfl, by simpa using this⟩
  obtain ⟨hz, hs⟩ := Prod.mk.inj hzc
  have hp : 0 < L.length := List.length_pos_iff.2 h0
  unfold Program.builtSlice
  rw [hie]
  simp only []
  cases hzz : ie.zero with
  | none => rw [hzz] at hz; cases hz
  | some z =>
    simp only []
    rw [hs, if_neg (by omega)]
    have hm : ∀ v ∈ L.map (fun x => Value.agg (idC x)), v.cells.size = 32 := fun v hv => by
      obtain ⟨x, hx, rfl⟩ := List.mem_map.1 hv
      show (idC x).size = 32
      rw [idC_size, h x hx]
    have := Great.fill_whole (s := 32) (by omega) (L.map fun x => Value.agg (idC x)) ((Array.range (L.length * 32)).map (z.cells[· % z.cells.size]!)) hm (by simp)
    rw [this]
    congr 1
    apply Array.ext'
    simp only [List.toList_toArray, List.flatMap_map, Value.cells, idsC]
    rfl
theorem wp_ids {o : Oper} {c : Act} {w : World} {K : Act → World → Prop} {Q : Exit → Act → World → Prop} (L : List (List UInt8)) (hL : ∀ x ∈ L, x.length = 32) (h0 : L ≠ []) (hl : L.length ≤ 100) (xs : Array (Nat × Operand)) (ho : o.op = .buildSlice 47 L.length xs)
    (hx : (xs.map fun (i, x) => (i, c.eval x)).toList = (L.map fun x => Value.agg (idC x)).zipIdx.map fun x => (x.2, x.1))
    (h : K (c.put o.dst (.slice (some ⟨w.heap.size, 0, none⟩) L.length L.length)) (w.alloc (.cells (idsC L).toArray 25))) : o.wp Tryd.prog c w K Q := by
  have hf := built_ids L hL h0 hl
  unfold Program.builtSlice at hf
  rw [← hx] at hf
  cases hie : Tryd.prog.info? 25 with
  | none => simp [hie] at hf
  | some ie =>
    simp only [hie] at hf
    cases hz : ie.zero with
    | none => simp [hz] at hf
    | some z =>
      simp only [hz] at hf
      by_cases hc : L.length * ie.size > 2 ^ 24 ∨ L.length * ie.size = 0
      · simp only [hc, if_true] at hf; cases hf
      · rw [if_neg hc] at hf
        exact wp_buildSlice 47 25 L.length xs ho _ ie z Tryd.underlying47 hie hz (fun h' => hc (Or.inl h')) (fun h' => hc (Or.inr h')) hf h
/-- 'append' under a guard that lets it be. -/
theorem wpList_appG {P : Program} {t e : TypeId} {size bytes : Nat} {z : Value} (E : Elt P t e size bytes z) {w : World} {ops : Array Oper} {rest : List Oper} {o : Oper} {a : Act} {Q : Exit → Act → World → Prop} (hw : Region.wanted o (yielded ops a.tmps) = true) (s x : Operand)
    (ho : o.op = .call { callee := .builtin .append, args := #[s, x], argTypes := #[t, t] })
    (base : Nat) (v : Value) (n : Nat) (xs : List Value) (hs : a.eval s = v) (hown : w.ownsRow base e size v n xs) (A : Option Addr) (m c : Nat) (news : List Value) (hx : a.eval x = .slice A m c)
    (hl : news.length = m * size) (hr : RdC w A news) (h1 : ∀ u ∈ news, u.oneCell' = true) (h63 : n + m ≤ maxLen) (hbytes : (n + m) * bytes ≤ 140737488355328) (hbase : base ≤ w.heap.size)
    (h : ∀ v' w', w'.ownsRow base e size v' (n + m) (xs ++ news) → w.grownBy w' v.ownBlock → wpList P ops Q rest (a.put o.dst v') w') : wpList P ops Q (o :: rest) a w :=
  wpList_step fun K hK => by
    rw [if_pos hw]
    exact wp_app E s x ho base v n xs hs hown A m c news hx hl hr h1 h63 hbytes hbase fun v' w' h2 h3 => hK _ _ (h v' w' h2 h3)
theorem wpList_load_rowG {P : Program} {ops : Array Oper} {rest : List Oper} {o : Oper} {a : Act} {w : World} {Q : Exit → Act → World → Prop} (hw : Region.wanted o (yielded ops a.tmps) = true) (ty : TypeId) (x : Operand) (ho : o.op = .load ty x) (g : Nat) (hx : a.eval x = .pointer (some ⟨g, 0, none⟩)) (t : TypeId) (cs : Array Value) (fr : Nat × Nat) (d : TypeDesc)
    (hg : w.heap[g]? = some (.cells cs t fr)) (hu : P.underlying ty = some d) (hd : (match d with | .struct _ | .array _ _ => true | _ => false) = true) (hi : (P.info? ty).map (·.size) = some cs.size)
    (h : wpList P ops Q rest (a.put o.dst (.agg cs)) w) : wpList P ops Q (o :: rest) a w :=
  wpList_step fun K hK => by
    rw [if_pos hw]
    exact wp_load_row ty x ho g hx t cs fr d hg hu hd hi (hK _ _ h)
theorem wpList_ids {ops : Array Oper} {rest : List Oper} {o : Oper} {a : Act} {w : World} {Q : Exit → Act → World → Prop} (hgd : o.guard = none) (L : List (List UInt8)) (hL : ∀ x ∈ L, x.length = 32) (h0 : L ≠ []) (hl : L.length ≤ 100) (n : Nat) (hn : L.length = n) (xs : Array (Nat × Operand)) (ho : o.op = .buildSlice 47 n xs)
    (hx : (xs.map fun (i, x) => (i, a.eval x)).toList = (L.map fun x => Value.agg (idC x)).zipIdx.map fun x => (x.2, x.1))
    (h : wpList Tryd.prog ops Q rest (a.put o.dst (.slice (some ⟨w.heap.size, 0, none⟩) n n)) (w.alloc (.cells (idsC L).toArray 25))) : wpList Tryd.prog ops Q (o :: rest) a w := by
  subst hn
  exact wpList_plain hgd fun K hK => wp_ids L hL h0 hl xs ho hx (hK _ _ h)
end Go.Proofs.YtcdnbidenaljlaaDoor

