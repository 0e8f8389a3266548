/- Texts of this proof, laid into one: SetP, SetS, SetX, SetGi. -/
import Derived.Test.YtcdnbidenaljlaaDoorMHashNames14
import Derived.Test.YtcdnbidenaljlaaDoorMHashNames5
import Derived.Test.YtcdnbidenaljlaaDoorMHashNames12
/- Plain: sets of ids. -/
namespace Go.Proofs.YtcdnbidenaljlaaDoor
open Go.Lib

theorem cmp_neg3 : ∀ (a b : List UInt8), Lib.compareBytes b a = - Lib.compareBytes a b
  | [], [] => by decide
  | [], _ :: _ => by simp [Lib.compareBytes]
  | _ :: _, [] => by simp [Lib.compareBytes]
  | c :: a, d :: b => by
    rw [Lib.compareBytes, Lib.compareBytes, cmp_neg3 a b]
    have hlt : c < d ↔ c.toNat < d.toNat := UInt8.lt_iff_toNat_lt
    have hgt : d < c ↔ d.toNat < c.toNat := UInt8.lt_iff_toNat_lt
    by_cases k1 : c < d
    · have k2 : ¬ d < c := fun x => by have := hlt.1 k1; have := hgt.1 x; omega
      rw [if_pos k1, if_neg k2, if_pos k1]; rfl
    · rw [if_neg k1, if_neg k1]
      by_cases k2 : d < c
      · rw [if_pos k2, if_pos k2]
      · rw [if_neg k2, if_neg k2]
def Ltc (a b : List UInt8) : Prop := Lib.compareBytes a b < 0
theorem ltc_irr (x : List UInt8) : ¬ Ltc x x := by unfold Ltc; rw [cmp_same]; decide
theorem ltc_tr (x y z : List UInt8) (h1 : Ltc x y) (h2 : Ltc y z) : Ltc x z := (cmp_trans x y z (Int.le_of_lt h1) (Int.le_of_lt h2)).2 (.inl h1)
theorem ltc_tr1 (x y z : List UInt8) (h1 : Ltc x y) (h2 : ¬ Ltc z y) : Ltc x z := by
  unfold Ltc at *
  have := cmp_neg3 z y
  exact (cmp_trans x y z (by omega) (by omega)).2 (.inl h1)
theorem ltc_tr2 (x y z : List UInt8) (h1 : ¬ Ltc y x) (h2 : Ltc y z) : Ltc x z := by
  unfold Ltc at *
  have := cmp_neg3 y x
  exact (cmp_trans x y z (by omega) (by omega)).2 (.inr h2)
theorem ltc_tot (x y : List UInt8) (hx : x.length = 32) (hy : y.length = 32) (h1 : ¬ Ltc x y) (h2 : ¬ Ltc y x) : x = y := by
  unfold Ltc at *
  have := cmp_neg3 x y
  exact cmp_eq0 x y (by omega) (by omega)
theorem ltc_tot2 (x y : List UInt8) (hx : x.length = 32) (hy : y.length = 32) (h1 : ¬ Ltc x y) (h2 : x ≠ y) : Ltc y x := Classical.byContradiction fun h => h2 (ltc_tot x y hx hy h1 h)
theorem rise_pw {L : List (List UInt8)} : Rise L ↔ L.Pairwise Ltc := by
  rw [List.pairwise_iff_getElem]
  exact Iff.rfl
structure IsSet (O L : List (List UInt8)) : Prop where
  rise : Rise O
  mem : ∀ x, x ∈ O ↔ x ∈ L
theorem IsSet.uniq {O O' L : List (List UInt8)} (h : IsSet O L) (k : IsSet O' L) : O = O' := pw_ext ltc_irr ltc_tr O O' (rise_pw.1 h.rise) (rise_pw.1 k.rise) fun x => (h.mem x).trans (k.mem x).symm
theorem IsSet.len32 {O L : List (List UInt8)} (h : IsSet O L) (h32 : ∀ x ∈ L, x.length = 32) : ∀ x ∈ O, x.length = 32 := fun x hx => h32 x ((h.mem x).1 hx)
theorem isSet_nil : IsSet [] [] := ⟨rise_pw.2 List.Pairwise.nil, fun _ => Iff.rfl⟩
theorem IsSet.skip {O L : List (List UInt8)} {k : Nat} (hk : k < L.length) (h : IsSet O (L.take k)) (hx : L[k] ∈ O) : IsSet O (L.take (k + 1)) := ⟨h.rise, fun x => by
  rw [List.take_succ_eq_append_getElem hk, List.mem_append, List.mem_singleton, h.mem]
  constructor
  · exact .inl
  · rintro (h' | rfl)
    · exact h'
    · exact (h.mem _).1 hx⟩
theorem IsSet.ins {O L : List (List UInt8)} {k at_ : Nat} (hk : k < L.length) (h32 : ∀ x ∈ L, x.length = 32) (h : IsSet O (L.take k)) (hx : L[k] ∉ O) (ha : at_ ≤ O.length) (hlo : ∀ i (hi : i < O.length), i < at_ → Lib.compareBytes O[i] L[k] < 0) (hhi : ∀ h : at_ < O.length, ¬ Lib.compareBytes O[at_] L[k] < 0) :
    IsSet (O.take at_ ++ [L[k]] ++ O.drop at_) (L.take (k + 1)) := by
  obtain ⟨h1, h2⟩ := ins_pw (lt := Ltc) (p := fun x => x.length = 32) ltc_tr ltc_tot2 O (rise_pw.1 h.rise) (fun y hy => h32 y (List.mem_of_mem_take ((h.mem y).1 hy))) L[k] (h32 _ (List.getElem_mem hk)) hx at_ ha hlo hhi
  rw [List.append_assoc, List.singleton_append]
  refine ⟨rise_pw.2 h1, fun x => ?_⟩
  rw [h2, h.mem, List.take_succ_eq_append_getElem hk, List.mem_append, List.mem_singleton]
end Go.Proofs.YtcdnbidenaljlaaDoor

/- A literal list of one id; a row of ids of one's own is a list that is read. -/
namespace Go.Proofs.YtcdnbidenaljlaaDoor
open Go.RowKit Go.Great

theorem idsC_take (M : List (List UInt8)) (h : ∀ x ∈ M, x.length = 32) (T : List Value) (k : Nat) (hk : k ≤ M.length) : (idsC M ++ T).take (k * 32) = idsC (M.take k) := by
  have h1 : idsC M = idsC (M.take k) ++ idsC (M.drop k) := by rw [← idsC_app, List.take_append_drop]
  have h2 : (idsC (M.take k)).length = k * 32 := by rw [idsC_length _ fun x hx => h x (List.mem_of_mem_take hx), List.length_take, Nat.min_eq_left hk]
  rw [h1, List.append_assoc, ← h2, List.take_left]
theorem idsC_drop (M : List (List UInt8)) (h : ∀ x ∈ M, x.length = 32) (T : List Value) (k : Nat) (hk : k ≤ M.length) : (idsC M ++ T).drop (k * 32) = idsC (M.drop k) ++ T := by
  have h1 : idsC M = idsC (M.take k) ++ idsC (M.drop k) := by rw [← idsC_app, List.take_append_drop]
  have h2 : (idsC (M.take k)).length = k * 32 := by rw [idsC_length _ fun x hx => h x (List.mem_of_mem_take hx), List.length_take, Nat.min_eq_left hk]
  rw [h1, List.append_assoc, ← h2, List.drop_left]
theorem wp_id1 {o : Oper} {c : Act} {w : World} {K : Act → World → Prop} {Q : Exit → Act → World → Prop} (x : Operand) (ho : o.op = .buildSlice 47 1 #[(0, x)]) (a : List UInt8) (ha : a.length = 32) (hx : c.eval x = .agg (u8v a).toArray)
    (h : K (c.put o.dst (.slice (some ⟨w.heap.size, 0, none⟩) 1 1)) (w.alloc (.cells (u8v a).toArray 25))) : o.wp Tryd.prog c w K Q := by
  have hf := built_id1 a ha (#[(0, x)].map fun (i, x) => (i, c.eval x)).toList (by simp [hx, idC])
  unfold Program.builtSlice at hf
  cases hie : Tryd.prog.info? 25 with
  | none => simp [hie] at hf
  | some ie =>
    simp only [hie] at hf
    cases hz : ie.zero with
    | none => simp [hz] at hf
    | some z =>
      simp only [hz] at hf
      by_cases hc : 1 * ie.size > 2 ^ 24 ∨ 1 * ie.size = 0
      · simp only [hc, if_true] at hf; cases hf
      · rw [if_neg hc] at hf
        exact wp_buildSlice 47 25 1 _ ho _ ie z Tryd.underlying47 hie hz (fun h' => hc (Or.inl h')) (fun h' => hc (Or.inr h')) hf h
theorem own_mono3 {w : World} {B B' : Nat} {e : TypeId} {s n : Nat} {v : Value} {xs : List Value} (h : w.ownsRow B e s v n xs) (hB : B' ≤ B) : w.ownsRow B' e s v n xs := by
  refine ⟨h.1, ?_⟩
  rcases h.2 with hn | ⟨g, cap, cur, rfl, hb, rest⟩
  · exact .inl hn
  · exact .inr ⟨g, cap, cur, rfl, Nat.le_trans hB hb, rest⟩
theorem ids_of_own {w : World} {B n : Nat} {v : Value} {L : List (List UInt8)} (h32 : ∀ x ∈ L, x.length = 32) (h : w.ownsRow B 25 32 v n (idsC L)) : ∃ A c, v = .slice A n c ∧ n ≤ c ∧ c ≤ maxLen ∧ RdC w A (idsC L) ∧ RdIds w A L := by
  have hA : ∃ A c, v = .slice A n c ∧ ∀ ad, A = some ad → ad = ⟨ad.block, ad.off, none⟩ := by
    rcases h.2 with ⟨rfl, rfl⟩ | ⟨g, cap, cur, rfl, _⟩
    · exact ⟨none, 0, rfl, fun _ e => by cases e⟩
    · exact ⟨_, _, rfl, fun ad e => by cases e; rfl⟩
  obtain ⟨A, c, rfl, hA⟩ := hA
  obtain ⟨A', c', e, h1, h2, h3, _⟩ := RdC.of_own h
  cases e
  exact ⟨A, c, rfl, h1, h2, h3, RdIds.of_row h32 h3 hA⟩
end Go.Proofs.YtcdnbidenaljlaaDoor

/- Literal lists of ids. -/
namespace Go.Proofs.YtcdnbidenaljlaaDoor
open Go.RowKit Go.Great

set_option maxRecDepth 100000 in
theorem built_ids (L : List (List UInt8)) (h : ∀ x ∈ L, x.length = 32) (h0 : L ≠ []) (hl : L.length ≤ 100) :
    Tryd.prog.builtSlice 25 L.length ((L.map fun x => Value.agg (idC x)).zipIdx.map fun x => (x.2, x.1)) = some (idsC L).toArray := by
  obtain ⟨ie, hie, hzc⟩ : ∃ ie, Tryd.prog.info? 25 = some ie ∧ (ie.zero.map Value.cells, ie.size) = (some (idC zeros), 32) := by
    have := zero_idc
    cases hq : Tryd.prog.info? 25 with
    | none => rw [hq] at this; cases this
    | some i => rw [hq] at this; exact ⟨i, rfl, by simpa using this⟩
  obtain ⟨hz, hs⟩ := Prod.mk.inj hzc
  have hp : 0 < L.length := List.length_pos_iff.2 h0
  unfold Program.builtSlice
  rw [hie]
  simp only []
  cases hzz : ie.zero with
  | none => rw [hzz] at hz; cases hz
  | some z =>
    simp only []
    rw [hs, if_neg (by omega)]
    have hm : ∀ v ∈ L.map (fun x => Value.agg (idC x)), v.cells.size = 32 := fun v hv => by
      obtain ⟨x, hx, rfl⟩ := List.mem_map.1 hv
      show (idC x).size = 32
      rw [idC_size, h x hx]
    have := Great.fill_whole (s := 32) (by omega) (L.map fun x => Value.agg (idC x)) ((Array.range (L.length * 32)).map (z.cells[· % z.cells.size]!)) hm (by simp)
    rw [this]
    congr 1
    apply Array.ext'
    simp only [List.toList_toArray, List.flatMap_map, Value.cells, idsC]
    rfl
theorem wp_ids {o : Oper} {c : Act} {w : World} {K : Act → World → Prop} {Q : Exit → Act → World → Prop} (L : List (List UInt8)) (hL : ∀ x ∈ L, x.length = 32) (h0 : L ≠ []) (hl : L.length ≤ 100) (xs : Array (Nat × Operand)) (ho : o.op = .buildSlice 47 L.length xs)
    (hx : (xs.map fun (i, x) => (i, c.eval x)).toList = (L.map fun x => Value.agg (idC x)).zipIdx.map fun x => (x.2, x.1))
    (h : K (c.put o.dst (.slice (some ⟨w.heap.size, 0, none⟩) L.length L.length)) (w.alloc (.cells (idsC L).toArray 25))) : o.wp Tryd.prog c w K Q := by
  have hf := built_ids L hL h0 hl
  unfold Program.builtSlice at hf
  rw [← hx] at hf
  cases hie : Tryd.prog.info? 25 with
  | none => simp [hie] at hf
  | some ie =>
    simp only [hie] at hf
    cases hz : ie.zero with
    | none => simp [hz] at hf
    | some z =>
      simp only [hz] at hf
      by_cases hc : L.length * ie.size > 2 ^ 24 ∨ L.length * ie.size = 0
      · simp only [hc, if_true] at hf; cases hf
      · rw [if_neg hc] at hf
        exact wp_buildSlice 47 25 L.length xs ho _ ie z Tryd.underlying47 hie hz (fun h' => hc (Or.inl h')) (fun h' => hc (Or.inr h')) hf h
/-- 'append' under a guard that lets it be. -/
theorem wpList_appG {P : Program} {t e : TypeId} {size bytes : Nat} {z : Value} (E : Elt P t e size bytes z) {w : World} {ops : Array Oper} {rest : List Oper} {o : Oper} {a : Act} {Q : Exit → Act → World → Prop} (hw : Region.wanted o (yielded ops a.tmps) = true) (s x : Operand)
    (ho : o.op = .call { callee := .builtin .append, args := #[s, x], argTypes := #[t, t] })
    (base : Nat) (v : Value) (n : Nat) (xs : List Value) (hs : a.eval s = v) (hown : w.ownsRow base e size v n xs) (A : Option Addr) (m c : Nat) (news : List Value) (hx : a.eval x = .slice A m c)
    (hl : news.length = m * size) (hr : RdC w A news) (h1 : ∀ u ∈ news, u.oneCell' = true) (h63 : n + m ≤ maxLen) (hbytes : (n + m) * bytes ≤ 140737488355328) (hbase : base ≤ w.heap.size)
    (h : ∀ v' w', w'.ownsRow base e size v' (n + m) (xs ++ news) → w.grownBy w' v.ownBlock → wpList P ops Q rest (a.put o.dst v') w') : wpList P ops Q (o :: rest) a w :=
  wpList_step fun K hK => by
    rw [if_pos hw]
    exact wp_app E s x ho base v n xs hs hown A m c news hx hl hr h1 h63 hbytes hbase fun v' w' h2 h3 => hK _ _ (h v' w' h2 h3)
theorem wpList_load_rowG {P : Program} {ops : Array Oper} {rest : List Oper} {o : Oper} {a : Act} {w : World} {Q : Exit → Act → World → Prop} (hw : Region.wanted o (yielded ops a.tmps) = true) (ty : TypeId) (x : Operand) (ho : o.op = .load ty x) (g : Nat) (hx : a.eval x = .pointer (some ⟨g, 0, none⟩)) (t : TypeId) (cs : Array Value) (fr : Nat × Nat) (d : TypeDesc)
    (hg : w.heap[g]? = some (.cells cs t fr)) (hu : P.underlying ty = some d) (hd : (match d with | .struct _ | .array _ _ => true | _ => false) = true) (hi : (P.info? ty).map (·.size) = some cs.size)
    (h : wpList P ops Q rest (a.put o.dst (.agg cs)) w) : wpList P ops Q (o :: rest) a w :=
  wpList_step fun K hK => by
    rw [if_pos hw]
    exact wp_load_row ty x ho g hx t cs fr d hg hu hd hi (hK _ _ h)
theorem wpList_ids {ops : Array Oper} {rest : List Oper} {o : Oper} {a : Act} {w : World} {Q : Exit → Act → World → Prop} (hgd : o.guard = none) (L : List (List UInt8)) (hL : ∀ x ∈ L, x.length = 32) (h0 : L ≠ []) (hl : L.length ≤ 100) (n : Nat) (hn : L.length = n) (xs : Array (Nat × Operand)) (ho : o.op = .buildSlice 47 n xs)
    (hx : (xs.map fun (i, x) => (i, a.eval x)).toList = (L.map fun x => Value.agg (idC x)).zipIdx.map fun x => (x.2, x.1))
    (h : wpList Tryd.prog ops Q rest (a.put o.dst (.slice (some ⟨w.heap.size, 0, none⟩) n n)) (w.alloc (.cells (idsC L).toArray 25))) : wpList Tryd.prog ops Q (o :: rest) a w := by
  subst hn
  exact wpList_plain hgd fun K hK => wp_ids L hL h0 hl xs ho hx (hK _ _ h)
end Go.Proofs.YtcdnbidenaljlaaDoor

/- Regions that draw their order: their obligations (printed by regen2.py). -/
namespace Go.Proofs.YtcdnbidenaljlaaDoor
open Go.RowKit
set_option linter.unusedVariables false
set_option linter.unusedSimpArgs false
set_option linter.unusedSectionVars false
def hn13R (t1 t2 t3 c4 : Nat) (A4 : Option Addr) (l1 l2 l3 : List UInt8) : Nat → Value → World → Prop
  | 0 => fun x_ _ => x_ = (Value.slice A4 2 c4)
  | 1 => fun x_ _ => x_ = (Value.agg (idC l2))
  | 2 => fun x_ _ => x_ = (Value.agg (idC l1))
  | 3 => (fun u_ w_ => ∃ b_, u_ = Value.slice (some ⟨b_, 0, none⟩) 2 2 ∧ w_.heap[b_]? = some (.cells (idsC [l2, l1]).toArray 25 (0, 0)))
  | 4 => fun x_ _ => x_ = (Value.bool true)
  | 5 => fun x_ _ => x_ = (Value.bool true)
  | 6 => fun x_ _ => x_ = (Value.slice A4 2 c4)
  | 7 => fun x_ _ => x_ = (Value.agg (idC l1))
  | 8 => fun x_ _ => x_ = (Value.bool true)
  | 9 => fun x_ _ => x_ = (Value.bool true)
  | 10 => fun x_ _ => x_ = (Value.bool true)
  | 11 => fun x_ _ => x_ = (Value.slice A4 2 c4)
  | 12 => fun x_ _ => x_ = (Value.agg (idC l3))
  | 13 => fun x_ _ => x_ = (Value.bool false)
  | 14 => fun x_ _ => x_ = (Value.bool true)
  | 15 => fun x_ _ => x_ = (Value.bool true)
  | 16 => fun x_ _ => x_ = (Value.bool true)
  | 17 => fun x_ _ => x_ = (Value.slice A4 2 c4)
  | 18 => fun x_ _ => x_ = (Value.agg (idC l1))
  | 19 => (fun u_ w_ => ∃ b_, u_ = Value.slice (some ⟨b_, 0, none⟩) 1 1 ∧ w_.heap[b_]? = some (.cells (idsC [l1]).toArray 25 (0, 0)))
  | 20 => (fun u_ w_ => ∃ A_ c_, u_ = Value.slice A_ 1 c_ ∧ RdIds w_ A_ [l2])
  | 21 => fun x_ _ => x_ = (Value.agg (idC l2))
  | 22 => (fun u_ w_ => ∃ b_, u_ = Value.slice (some ⟨b_, 0, none⟩) 1 1 ∧ w_.heap[b_]? = some (.cells (idsC [l2]).toArray 25 (0, 0)))
  | 23 => fun x_ _ => x_ = (Value.bool true)
  | 24 => fun x_ _ => x_ = (Value.bool true)
  | 25 => fun x_ _ => x_ = (Value.bool true)
  | 26 => (fun u_ _ => ∃ A_ c_, u_ = Value.slice A_ 0 c_)
  | 27 => fun x_ _ => x_ = (Value.int IntKind.i64 0)
  | 28 => fun x_ _ => x_ = (Value.bool true)
  | 29 => fun x_ _ => x_ = (Value.bool true)
  | 30 => fun x_ _ => x_ = (Value.bool true)
  | 31 => fun x_ _ => x_ = (Value.agg (idC l1))
  | 32 => fun x_ _ => x_ = (Value.agg (idC l2))
  | 33 => fun x_ _ => x_ = (Value.int IntKind.i64 1)
  | 34 => fun x_ _ => x_ = (Value.bool true)
  | 35 => fun x_ _ => x_ = (Value.bool true)
  | 36 => fun x_ _ => x_ = (Value.bool true)
  | 37 => fun x_ _ => x_ = (Value.agg (idC l2))
  | 38 => fun x_ _ => x_ = (Value.agg (idC l1))
  | 39 => fun x_ _ => x_ = (Value.int IntKind.i64 (-1))
  | 40 => fun x_ _ => x_ = (Value.bool true)
  | 41 => fun x_ _ => x_ = (Value.bool true)
  | 42 => fun x_ _ => x_ = (Value.bool true)
  | 43 => fun x_ _ => x_ = (Value.agg (idC l1))
  | 44 => fun x_ _ => x_ = (Value.agg (idC l1))
  | 45 => fun x_ _ => x_ = (Value.int IntKind.i64 0)
  | 46 => fun x_ _ => x_ = (Value.bool true)
  | 47 => fun x_ _ => x_ = (Value.bool true)
  | 48 => fun x_ _ => x_ = (Value.bool true)
  | _ => fun _ _ => True
theorem hn13_stable (t1 t2 t3 c4 : Nat) (A4 : Option Addr) (l1 l2 l3 : List UInt8) : ∀ i_ u_ w_ w_', (hn13R t1 t2 t3 c4 A4 l1 l2 l3) i_ u_ w_ → Below w_.heap.size w_ w_' → (hn13R t1 t2 t3 c4 A4 l1 l2 l3) i_ u_ w_' := fun i_ u_ w_ w_' h_ hb_ => by
  match i_, h_ with
  | 0, h_ => exact h_
  | 1, h_ => exact h_
  | 2, h_ => exact h_
  | 3, h_ => exact ((by obtain ⟨b_, h1_, h2_⟩ := h_; exact ⟨b_, h1_, (hb_.block _ (lt_of_get h2_)).trans h2_⟩))
  | 4, h_ => exact h_
  | 5, h_ => exact h_
  | 6, h_ => exact h_
  | 7, h_ => exact h_
  | 8, h_ => exact h_
  | 9, h_ => exact h_
  | 10, h_ => exact h_
  | 11, h_ => exact h_
  | 12, h_ => exact h_
  | 13, h_ => exact h_
  | 14, h_ => exact h_
  | 15, h_ => exact h_
  | 16, h_ => exact h_
  | 17, h_ => exact h_
  | 18, h_ => exact h_
  | 19, h_ => exact ((by obtain ⟨b_, h1_, h2_⟩ := h_; exact ⟨b_, h1_, (hb_.block _ (lt_of_get h2_)).trans h2_⟩))
  | 20, h_ => exact ((by obtain ⟨A_, c_, h1_, h2_⟩ := h_; exact ⟨A_, c_, h1_, h2_.below hb_⟩))
  | 21, h_ => exact h_
  | 22, h_ => exact ((by obtain ⟨b_, h1_, h2_⟩ := h_; exact ⟨b_, h1_, (hb_.block _ (lt_of_get h2_)).trans h2_⟩))
  | 23, h_ => exact h_
  | 24, h_ => exact h_
  | 25, h_ => exact h_
  | 26, h_ => exact (h_)
  | 27, h_ => exact h_
  | 28, h_ => exact h_
  | 29, h_ => exact h_
  | 30, h_ => exact h_
  | 31, h_ => exact h_
  | 32, h_ => exact h_
  | 33, h_ => exact h_
  | 34, h_ => exact h_
  | 35, h_ => exact h_
  | 36, h_ => exact h_
  | 37, h_ => exact h_
  | 38, h_ => exact h_
  | 39, h_ => exact h_
  | 40, h_ => exact h_
  | 41, h_ => exact h_
  | 42, h_ => exact h_
  | 43, h_ => exact h_
  | 44, h_ => exact h_
  | 45, h_ => exact h_
  | 46, h_ => exact h_
  | 47, h_ => exact h_
  | 48, h_ => exact h_
  | (_ + 49), _ => trivial
section
variable (t1 t2 t3 c4 : Nat) (A4 : Option Addr) (l1 l2 l3 : List UInt8) (w0 : World) (a0 : Act)
variable (hl1 : l1.length = 32) (hl2 : l2.length = 32) (hl3 : l3.length = 32)
variable (hT1 : (Tryd.prog.info? 25).map (·.size) = some (idC l1).size)
variable (hT2 : (Tryd.prog.info? 25).map (·.size) = some (idC l2).size)
variable (hT3 : (Tryd.prog.info? 25).map (·.size) = some (idC l3).size)
variable (hsame1 : ∀ W b, Below w0.heap.size w0 W → W.heap[b]? = some (.cells (idsC [l2, l1]).toArray 25 (0, 0)) → Calls Tryd.prog 21 #[(Value.slice A4 2 c4), .slice (some ⟨b, 0, none⟩) 2 2] W fun e w' => e = .returned (.bool true) ∧ Below W.heap.size W w')
variable (hhas1 : ∀ W , Below w0.heap.size w0 W → Calls Tryd.prog 19 #[(Value.slice A4 2 c4), .agg (idC l1)] W fun e w' => e = .returned (.bool true) ∧ Below W.heap.size W w')
variable (hhas3 : ∀ W , Below w0.heap.size w0 W → Calls Tryd.prog 19 #[(Value.slice A4 2 c4), .agg (idC l3)] W fun e w' => e = .returned (.bool false) ∧ Below W.heap.size W w')
variable (hless : ∀ W b, Below w0.heap.size w0 W → W.heap[b]? = some (.cells (idsC [l1]).toArray 25 (0, 0)) → Calls Tryd.prog 20 #[(Value.slice A4 2 c4), .slice (some ⟨b, 0, none⟩) 1 1] W fun e w' => (∃ A c, e = .returned (.slice A 1 c) ∧ RdIds w' A [l2]) ∧ Below W.heap.size W w')
variable (hsame2 : ∀ W A c b, Below w0.heap.size w0 W → RdIds W A [l2] → W.heap[b]? = some (.cells (idsC [l2]).toArray 25 (0, 0)) → Calls Tryd.prog 21 #[.slice A 1 c, .slice (some ⟨b, 0, none⟩) 1 1] W fun e w' => e = .returned (.bool true) ∧ Below W.heap.size W w')
variable (hset0 : ∀ W, Below w0.heap.size w0 W → Calls Tryd.prog 17 #[.slice none 0 0] W fun e w' => (∃ A c, e = .returned (.slice A 0 c)) ∧ Below W.heap.size W w')
variable (hc1 : ∀ W , Below w0.heap.size w0 W → Calls Tryd.prog 16 #[.agg (idC l1), .agg (idC l2)] W fun e w' => e = .returned (.int .i64 1) ∧ Below W.heap.size W w')
variable (hc2 : ∀ W , Below w0.heap.size w0 W → Calls Tryd.prog 16 #[.agg (idC l2), .agg (idC l1)] W fun e w' => e = .returned (.int .i64 (-1)) ∧ Below W.heap.size W w')
variable (hc3 : ∀ W , Below w0.heap.size w0 W → Calls Tryd.prog 16 #[.agg (idC l1), .agg (idC l1)] W fun e w' => e = .returned (.int .i64 0) ∧ Below W.heap.size W w')
variable (M_t1 : ∀ W, Below w0.heap.size w0 W → W.heap[t1]? = some (.cells (idC l1) 25 (0, 0)))
variable (M_t2 : ∀ W, Below w0.heap.size w0 W → W.heap[t2]? = some (.cells (idC l2) 25 (0, 0)))
variable (M_t3 : ∀ W, Below w0.heap.size w0 W → W.heap[t3]? = some (.cells (idC l3) 25 (0, 0)))
variable (i2 : a0.eval (.tmp 2) = (Value.pointer (some ⟨t3, 0, none⟩))) (i14 : a0.eval (.tmp 14) = (Value.pointer (some ⟨t1, 0, none⟩))) (i15 : a0.eval (.tmp 15) = (Value.pointer (some ⟨t2, 0, none⟩))) (i16 : a0.eval (.tmp 16) = (Value.slice A4 2 c4)) (hsz : a0.tmps.size = 184)
include t1 t2 t3 c4 A4 l1 l2 l3 w0 a0 hl1 hl2 hl3 hT1 hT2 hT3 hsame1 hhas1 hhas3 hless hsame2 hset0 hc1 hc2 hc3 M_t1 M_t2 M_t3 i2 i14 i15 i16 hsz
set_option maxHeartbeats 4000000 in
set_option maxRecDepth 20000 in
theorem hn13_h0 :
    Reg.OpOK Tryd.prog (Reg.opsOf Tryd.f7 13) a0 w0 (hn13R t1 t2 t3 c4 A4 l1 l2 l3) (fun _ _ _ _ => True) 0 := by
    refine Reg.op_ok2 (fun af => { dst := some 90, op := Op.move (Operand.tmp 16), type := 47, pos := "outright.go:36", after := af, guard := none }) #[] (by kernel_rfl) [] (by kernel_rfl) fun af v W hb hd => ?_
    have e16 := (Reg.gfr_eval0 (ops := (Reg.opsOf Tryd.f7 13)) (a0 := a0) (v := v) (L := []) 16 (by kernel_rfl)).trans i16
    refine ⟨Reg.wanted_none rfl, ?_⟩
    generalize Reg.gfr (Reg.opsOf Tryd.f7 13) a0 v [] = G at e16 ⊢
    generalize hρ : G.eval = ρ at e16
    have hρ' : G.eval = ρ := hρ
    refine Reg.go_run (Value.slice A4 2 c4) W ?_ ?_
    · rw [hρ']; simp [execOp, go_sem, e16]
    · exact ⟨Below.refl _ _, rfl⟩
set_option maxHeartbeats 4000000 in
set_option maxRecDepth 20000 in
theorem hn13_h1 :
    Reg.OpOK Tryd.prog (Reg.opsOf Tryd.f7 13) a0 w0 (hn13R t1 t2 t3 c4 A4 l1 l2 l3) (fun _ _ _ _ => True) 1 := by
    refine Reg.op_ok2 (fun af => { dst := some 91, op := Op.load 25 (Operand.tmp 15), type := 25, pos := "outright.go:36", after := af, guard := none }) #[] (by kernel_rfl) [] (by kernel_rfl) fun af v W hb hd => ?_
    have e15 := (Reg.gfr_eval0 (ops := (Reg.opsOf Tryd.f7 13)) (a0 := a0) (v := v) (L := []) 15 (by kernel_rfl)).trans i15
    refine ⟨Reg.wanted_none rfl, ?_⟩
    generalize Reg.gfr (Reg.opsOf Tryd.f7 13) a0 v [] = G at e15 ⊢
    generalize hρ : G.eval = ρ at e15
    have hρ' : G.eval = ρ := hρ
    exact fun K hK => wp_load_row 25 (.tmp 15) rfl t2 (by rw [hρ']; exact e15) 25 (idC l2) (0, 0) _ (M_t2 W hb) Tryd.underlying25 rfl hT2 (hK _ _ ⟨Below.refl _ _, rfl⟩)
set_option maxHeartbeats 4000000 in
set_option maxRecDepth 20000 in
theorem hn13_h2 :
    Reg.OpOK Tryd.prog (Reg.opsOf Tryd.f7 13) a0 w0 (hn13R t1 t2 t3 c4 A4 l1 l2 l3) (fun _ _ _ _ => True) 2 := by
    refine Reg.op_ok2 (fun af => { dst := some 92, op := Op.load 25 (Operand.tmp 14), type := 25, pos := "outright.go:36", after := af, guard := none }) #[] (by kernel_rfl) [] (by kernel_rfl) fun af v W hb hd => ?_
    have e14 := (Reg.gfr_eval0 (ops := (Reg.opsOf Tryd.f7 13)) (a0 := a0) (v := v) (L := []) 14 (by kernel_rfl)).trans i14
    refine ⟨Reg.wanted_none rfl, ?_⟩
    generalize Reg.gfr (Reg.opsOf Tryd.f7 13) a0 v [] = G at e14 ⊢
    generalize hρ : G.eval = ρ at e14
    have hρ' : G.eval = ρ := hρ
    exact fun K hK => wp_load_row 25 (.tmp 14) rfl t1 (by rw [hρ']; exact e14) 25 (idC l1) (0, 0) _ (M_t1 W hb) Tryd.underlying25 rfl hT1 (hK _ _ ⟨Below.refl _ _, rfl⟩)
set_option maxHeartbeats 4000000 in
set_option maxRecDepth 20000 in
theorem hn13_h3 :
    Reg.OpOK Tryd.prog (Reg.opsOf Tryd.f7 13) a0 w0 (hn13R t1 t2 t3 c4 A4 l1 l2 l3) (fun _ _ _ _ => True) 3 := by
    refine Reg.op_ok2 (fun af => { dst := some 93, op := Op.buildSlice 47 2 #[(0, Operand.tmp 91), (1, Operand.tmp 92)], type := 47, pos := "outright.go:36", after := af, guard := none }) #[{ on := 1, ground := Ground.data }, { on := 2, ground := Ground.data }] (by kernel_rfl) [1, 2] (by kernel_rfl) fun af v W hb hd => ?_
    have d1 : v 1 = (Value.agg (idC l2)) := hd 1 (by decide)
    have d2 : v 2 = (Value.agg (idC l1)) := hd 2 (by decide)
    have e91 := (Reg.gfr_eval (ops := (Reg.opsOf Tryd.f7 13)) (a0 := a0) (v := v) (L := [1, 2]) 91 1 (by kernel_rfl) (by rw [hsz]; omega)).trans d1
    have e92 := (Reg.gfr_eval (ops := (Reg.opsOf Tryd.f7 13)) (a0 := a0) (v := v) (L := [1, 2]) 92 2 (by kernel_rfl) (by rw [hsz]; omega)).trans d2
    refine ⟨Reg.wanted_none rfl, ?_⟩
    generalize Reg.gfr (Reg.opsOf Tryd.f7 13) a0 v [1, 2] = G at e91 e92 ⊢
    generalize hρ : G.eval = ρ at e91 e92
    have hρ' : G.eval = ρ := hρ
    refine fun K hK => wp_ids [l2, l1] (by simp [hl1, hl2, hl3]) (by simp) (by simp) _ rfl (by rw [hρ']; simp [e91, e92]) (hK (.slice (some ⟨W.heap.size, 0, none⟩) 2 2) (W.alloc (.cells (idsC [l2, l1]).toArray 25)) ⟨(Below.refl _ _).alloc (Nat.le_refl _) _, ⟨_, rfl, heap_alloc_new _ _⟩⟩)
set_option maxHeartbeats 4000000 in
set_option maxRecDepth 20000 in
theorem hn13_h4 :
    Reg.OpOK Tryd.prog (Reg.opsOf Tryd.f7 13) a0 w0 (hn13R t1 t2 t3 c4 A4 l1 l2 l3) (fun _ _ _ _ => True) 4 := by
    refine Reg.op_ok2 (fun af => { dst := some 94, op := Op.call { callee := Callee.value (Operand.func 21), args := #[Operand.tmp 90, Operand.tmp 93], argTypes := #[47, 47] }, type := 4, pos := "outright.go:36", after := af, guard := none }) #[{ on := 0, ground := Ground.data }, { on := 3, ground := Ground.data }] (by kernel_rfl) [0, 3] (by kernel_rfl) fun af v W hb hd => ?_
    have d0 : v 0 = (Value.slice A4 2 c4) := hd 0 (by decide)
    have d3 : ((fun u_ w_ => ∃ b_, u_ = Value.slice (some ⟨b_, 0, none⟩) 2 2 ∧ w_.heap[b_]? = some (.cells (idsC [l2, l1]).toArray 25 (0, 0)))) (v 3) W := hd 3 (by decide)
    have e90 := (Reg.gfr_eval (ops := (Reg.opsOf Tryd.f7 13)) (a0 := a0) (v := v) (L := [0, 3]) 90 0 (by kernel_rfl) (by rw [hsz]; omega)).trans d0
    have e93 := Reg.gfr_eval (ops := (Reg.opsOf Tryd.f7 13)) (a0 := a0) (v := v) (L := [0, 3]) 93 3 (by kernel_rfl) (by rw [hsz]; omega)
    refine ⟨Reg.wanted_none rfl, ?_⟩
    have eF : ∀ f, (Reg.gfr (Reg.opsOf Tryd.f7 13) a0 v [0, 3]).eval (.func f) = .func (.func f) #[] #[] := fun _ => rfl
    generalize Reg.gfr (Reg.opsOf Tryd.f7 13) a0 v [0, 3] = G at e90 e93 eF ⊢
    generalize hρ : G.eval = ρ at e90 e93 eF
    have hρ' : G.eval = ρ := hρ
    obtain ⟨b_, hv_, hc_⟩ := d3
    rw [hv_] at e93
    refine Reg.go_call 21 #[(Value.slice A4 2 c4), (Value.slice (some ⟨b_, 0, none⟩) 2 2)] (by rw [hρ']; simp [execOp, go_sem, e90, e93, eF]) ((hsame1 W b_ hb hc_).mono fun e w' he => ?_)
    obtain ⟨rfl, hbb_⟩ := he
    exact ⟨_, rfl, hbb_, rfl⟩
set_option maxHeartbeats 4000000 in
set_option maxRecDepth 20000 in
theorem hn13_h5 :
    Reg.OpOK Tryd.prog (Reg.opsOf Tryd.f7 13) a0 w0 (hn13R t1 t2 t3 c4 A4 l1 l2 l3) (fun _ _ _ _ => True) 5 := by
    refine Reg.op_ok2 (fun af => { dst := some 95, op := Op.move (Operand.tmp 94), type := 4, pos := "outright.go:36", after := af, guard := none }) #[{ on := 4, ground := Ground.data }, { on := 4, ground := Ground.chain }] (by kernel_rfl) [4, 4] (by kernel_rfl) fun af v W hb hd => ?_
    have d4 : v 4 = (Value.bool true) := hd 4 (by decide)
    have e94 := (Reg.gfr_eval (ops := (Reg.opsOf Tryd.f7 13)) (a0 := a0) (v := v) (L := [4, 4]) 94 4 (by kernel_rfl) (by rw [hsz]; omega)).trans d4
    refine ⟨Reg.wanted_none rfl, ?_⟩
    generalize Reg.gfr (Reg.opsOf Tryd.f7 13) a0 v [4, 4] = G at e94 ⊢
    generalize hρ : G.eval = ρ at e94
    have hρ' : G.eval = ρ := hρ
    refine Reg.go_run (Value.bool true) W ?_ ?_
    · rw [hρ']; simp [execOp, go_sem, e94]
    · exact ⟨Below.refl _ _, rfl⟩
set_option maxHeartbeats 4000000 in
set_option maxRecDepth 20000 in
theorem hn13_h6 :
    Reg.OpOK Tryd.prog (Reg.opsOf Tryd.f7 13) a0 w0 (hn13R t1 t2 t3 c4 A4 l1 l2 l3) (fun _ _ _ _ => True) 6 := by
    refine Reg.op_ok2 (fun af => { dst := some 96, op := Op.move (Operand.tmp 16), type := 47, pos := "outright.go:36", after := af, guard := some (5, true) }) #[{ on := 5, ground := Ground.guard }] (by kernel_rfl) [5] (by kernel_rfl) fun af v W hb hd => ?_
    have d5 : v 5 = (Value.bool true) := hd 5 (by decide)
    have e16 := (Reg.gfr_eval0 (ops := (Reg.opsOf Tryd.f7 13)) (a0 := a0) (v := v) (L := [5]) 16 (by kernel_rfl)).trans i16
    have e95 := (Reg.gfr_eval (ops := (Reg.opsOf Tryd.f7 13)) (a0 := a0) (v := v) (L := [5]) 95 5 (by kernel_rfl) (by rw [hsz]; omega)).trans d5
    refine ⟨Reg.wanted_of rfl (by kernel_rfl) e95, ?_⟩
    generalize Reg.gfr (Reg.opsOf Tryd.f7 13) a0 v [5] = G at e16 ⊢
    generalize hρ : G.eval = ρ at e16
    have hρ' : G.eval = ρ := hρ
    refine Reg.go_run (Value.slice A4 2 c4) W ?_ ?_
    · rw [hρ']; simp [execOp, go_sem, e16]
    · exact ⟨Below.refl _ _, rfl⟩
set_option maxHeartbeats 4000000 in
set_option maxRecDepth 20000 in
theorem hn13_h7 :
    Reg.OpOK Tryd.prog (Reg.opsOf Tryd.f7 13) a0 w0 (hn13R t1 t2 t3 c4 A4 l1 l2 l3) (fun _ _ _ _ => True) 7 := by
    refine Reg.op_ok2 (fun af => { dst := some 97, op := Op.load 25 (Operand.tmp 14), type := 25, pos := "outright.go:36", after := af, guard := some (5, true) }) #[{ on := 5, ground := Ground.guard }] (by kernel_rfl) [5] (by kernel_rfl) fun af v W hb hd => ?_
    have d5 : v 5 = (Value.bool true) := hd 5 (by decide)
    have e14 := (Reg.gfr_eval0 (ops := (Reg.opsOf Tryd.f7 13)) (a0 := a0) (v := v) (L := [5]) 14 (by kernel_rfl)).trans i14
    have e95 := (Reg.gfr_eval (ops := (Reg.opsOf Tryd.f7 13)) (a0 := a0) (v := v) (L := [5]) 95 5 (by kernel_rfl) (by rw [hsz]; omega)).trans d5
    refine ⟨Reg.wanted_of rfl (by kernel_rfl) e95, ?_⟩
    generalize Reg.gfr (Reg.opsOf Tryd.f7 13) a0 v [5] = G at e14 ⊢
    generalize hρ : G.eval = ρ at e14
    have hρ' : G.eval = ρ := hρ
    exact fun K hK => wp_load_row 25 (.tmp 14) rfl t1 (by rw [hρ']; exact e14) 25 (idC l1) (0, 0) _ (M_t1 W hb) Tryd.underlying25 rfl hT1 (hK _ _ ⟨Below.refl _ _, rfl⟩)
set_option maxHeartbeats 4000000 in
set_option maxRecDepth 20000 in
theorem hn13_h8 :
    Reg.OpOK Tryd.prog (Reg.opsOf Tryd.f7 13) a0 w0 (hn13R t1 t2 t3 c4 A4 l1 l2 l3) (fun _ _ _ _ => True) 8 := by
    refine Reg.op_ok2 (fun af => { dst := some 98, op := Op.call { callee := Callee.value (Operand.func 19), args := #[Operand.tmp 96, Operand.tmp 97], argTypes := #[47, 25] }, type := 4, pos := "outright.go:36", after := af, guard := some (5, true) }) #[{ on := 6, ground := Ground.data }, { on := 7, ground := Ground.data }, { on := 5, ground := Ground.chain }, { on := 5, ground := Ground.guard }] (by kernel_rfl) [6, 7, 5, 5] (by kernel_rfl) fun af v W hb hd => ?_
    have d5 : v 5 = (Value.bool true) := hd 5 (by decide)
    have d6 : v 6 = (Value.slice A4 2 c4) := hd 6 (by decide)
    have d7 : v 7 = (Value.agg (idC l1)) := hd 7 (by decide)
    have e96 := (Reg.gfr_eval (ops := (Reg.opsOf Tryd.f7 13)) (a0 := a0) (v := v) (L := [6, 7, 5, 5]) 96 6 (by kernel_rfl) (by rw [hsz]; omega)).trans d6
    have e97 := (Reg.gfr_eval (ops := (Reg.opsOf Tryd.f7 13)) (a0 := a0) (v := v) (L := [6, 7, 5, 5]) 97 7 (by kernel_rfl) (by rw [hsz]; omega)).trans d7
    have e95 := (Reg.gfr_eval (ops := (Reg.opsOf Tryd.f7 13)) (a0 := a0) (v := v) (L := [6, 7, 5, 5]) 95 5 (by kernel_rfl) (by rw [hsz]; omega)).trans d5
    refine ⟨Reg.wanted_of rfl (by kernel_rfl) e95, ?_⟩
    have eF : ∀ f, (Reg.gfr (Reg.opsOf Tryd.f7 13) a0 v [6, 7, 5, 5]).eval (.func f) = .func (.func f) #[] #[] := fun _ => rfl
    generalize Reg.gfr (Reg.opsOf Tryd.f7 13) a0 v [6, 7, 5, 5] = G at e96 e97 eF ⊢
    generalize hρ : G.eval = ρ at e96 e97 eF
    have hρ' : G.eval = ρ := hρ
    refine Reg.go_call 19 #[(Value.slice A4 2 c4), (Value.agg (idC l1))] (by rw [hρ']; simp [execOp, go_sem, e96, e97, eF]) ((hhas1 W hb).mono fun e w' he => ?_)
    obtain ⟨rfl, hbb_⟩ := he
    exact ⟨_, rfl, hbb_, rfl⟩
set_option maxHeartbeats 4000000 in
set_option maxRecDepth 20000 in
theorem hn13_h9 :
    Reg.OpOK Tryd.prog (Reg.opsOf Tryd.f7 13) a0 w0 (hn13R t1 t2 t3 c4 A4 l1 l2 l3) (fun _ _ _ _ => True) 9 := by
    refine Reg.op_ok2 (fun af => { dst := some 99, op := Op.pick (Operand.tmp 95) (Operand.tmp 98) (Operand.const (Value.bool false)), type := 4, pos := "outright.go:36", after := af, guard := none }) #[{ on := 5, ground := Ground.data }, { on := 8, ground := Ground.data }] (by kernel_rfl) [5, 8] (by kernel_rfl) fun af v W hb hd => ?_
    have d5 : v 5 = (Value.bool true) := hd 5 (by decide)
    have d8 : v 8 = (Value.bool true) := hd 8 (by decide)
    have e95 := (Reg.gfr_eval (ops := (Reg.opsOf Tryd.f7 13)) (a0 := a0) (v := v) (L := [5, 8]) 95 5 (by kernel_rfl) (by rw [hsz]; omega)).trans d5
    have e98 := (Reg.gfr_eval (ops := (Reg.opsOf Tryd.f7 13)) (a0 := a0) (v := v) (L := [5, 8]) 98 8 (by kernel_rfl) (by rw [hsz]; omega)).trans d8
    refine ⟨Reg.wanted_none rfl, ?_⟩
    have eC : ∀ x, (Reg.gfr (Reg.opsOf Tryd.f7 13) a0 v [5, 8]).eval (.const x) = x := fun _ => rfl
    generalize Reg.gfr (Reg.opsOf Tryd.f7 13) a0 v [5, 8] = G at e95 e98 eC ⊢
    generalize hρ : G.eval = ρ at e95 e98 eC
    have hρ' : G.eval = ρ := hρ
    refine Reg.go_run (Value.bool true) W ?_ ?_
    · rw [hρ']; simp [execOp, go_sem, e95, e98, eC]
    · exact ⟨Below.refl _ _, rfl⟩
set_option maxHeartbeats 4000000 in
set_option maxRecDepth 20000 in
theorem hn13_h10 :
    Reg.OpOK Tryd.prog (Reg.opsOf Tryd.f7 13) a0 w0 (hn13R t1 t2 t3 c4 A4 l1 l2 l3) (fun _ _ _ _ => True) 10 := by
    refine Reg.op_ok2 (fun af => { dst := some 100, op := Op.move (Operand.tmp 99), type := 4, pos := "outright.go:36", after := af, guard := none }) #[{ on := 9, ground := Ground.data }, { on := 8, ground := Ground.chain }] (by kernel_rfl) [9, 8] (by kernel_rfl) fun af v W hb hd => ?_
    have d9 : v 9 = (Value.bool true) := hd 9 (by decide)
    have e99 := (Reg.gfr_eval (ops := (Reg.opsOf Tryd.f7 13)) (a0 := a0) (v := v) (L := [9, 8]) 99 9 (by kernel_rfl) (by rw [hsz]; omega)).trans d9
    refine ⟨Reg.wanted_none rfl, ?_⟩
    generalize Reg.gfr (Reg.opsOf Tryd.f7 13) a0 v [9, 8] = G at e99 ⊢
    generalize hρ : G.eval = ρ at e99
    have hρ' : G.eval = ρ := hρ
    refine Reg.go_run (Value.bool true) W ?_ ?_
    · rw [hρ']; simp [execOp, go_sem, e99]
    · exact ⟨Below.refl _ _, rfl⟩
set_option maxHeartbeats 4000000 in
set_option maxRecDepth 20000 in
theorem hn13_h11 :
    Reg.OpOK Tryd.prog (Reg.opsOf Tryd.f7 13) a0 w0 (hn13R t1 t2 t3 c4 A4 l1 l2 l3) (fun _ _ _ _ => True) 11 := by
    refine Reg.op_ok2 (fun af => { dst := some 101, op := Op.move (Operand.tmp 16), type := 47, pos := "outright.go:36", after := af, guard := some (10, true) }) #[{ on := 10, ground := Ground.guard }] (by kernel_rfl) [10] (by kernel_rfl) fun af v W hb hd => ?_
    have d10 : v 10 = (Value.bool true) := hd 10 (by decide)
    have e16 := (Reg.gfr_eval0 (ops := (Reg.opsOf Tryd.f7 13)) (a0 := a0) (v := v) (L := [10]) 16 (by kernel_rfl)).trans i16
    have e100 := (Reg.gfr_eval (ops := (Reg.opsOf Tryd.f7 13)) (a0 := a0) (v := v) (L := [10]) 100 10 (by kernel_rfl) (by rw [hsz]; omega)).trans d10
    refine ⟨Reg.wanted_of rfl (by kernel_rfl) e100, ?_⟩
    generalize Reg.gfr (Reg.opsOf Tryd.f7 13) a0 v [10] = G at e16 ⊢
    generalize hρ : G.eval = ρ at e16
    have hρ' : G.eval = ρ := hρ
    refine Reg.go_run (Value.slice A4 2 c4) W ?_ ?_
    · rw [hρ']; simp [execOp, go_sem, e16]
    · exact ⟨Below.refl _ _, rfl⟩
set_option maxHeartbeats 4000000 in
set_option maxRecDepth 20000 in
theorem hn13_h12 :
    Reg.OpOK Tryd.prog (Reg.opsOf Tryd.f7 13) a0 w0 (hn13R t1 t2 t3 c4 A4 l1 l2 l3) (fun _ _ _ _ => True) 12 := by
    refine Reg.op_ok2 (fun af => { dst := some 102, op := Op.load 25 (Operand.tmp 2), type := 25, pos := "outright.go:36", after := af, guard := some (10, true) }) #[{ on := 10, ground := Ground.guard }] (by kernel_rfl) [10] (by kernel_rfl) fun af v W hb hd => ?_
    have d10 : v 10 = (Value.bool true) := hd 10 (by decide)
    have e2 := (Reg.gfr_eval0 (ops := (Reg.opsOf Tryd.f7 13)) (a0 := a0) (v := v) (L := [10]) 2 (by kernel_rfl)).trans i2
    have e100 := (Reg.gfr_eval (ops := (Reg.opsOf Tryd.f7 13)) (a0 := a0) (v := v) (L := [10]) 100 10 (by kernel_rfl) (by rw [hsz]; omega)).trans d10
    refine ⟨Reg.wanted_of rfl (by kernel_rfl) e100, ?_⟩
    generalize Reg.gfr (Reg.opsOf Tryd.f7 13) a0 v [10] = G at e2 ⊢
    generalize hρ : G.eval = ρ at e2
    have hρ' : G.eval = ρ := hρ
    exact fun K hK => wp_load_row 25 (.tmp 2) rfl t3 (by rw [hρ']; exact e2) 25 (idC l3) (0, 0) _ (M_t3 W hb) Tryd.underlying25 rfl hT3 (hK _ _ ⟨Below.refl _ _, rfl⟩)
set_option maxHeartbeats 4000000 in
set_option maxRecDepth 20000 in
theorem hn13_h13 :
    Reg.OpOK Tryd.prog (Reg.opsOf Tryd.f7 13) a0 w0 (hn13R t1 t2 t3 c4 A4 l1 l2 l3) (fun _ _ _ _ => True) 13 := by
    refine Reg.op_ok2 (fun af => { dst := some 103, op := Op.call { callee := Callee.value (Operand.func 19), args := #[Operand.tmp 101, Operand.tmp 102], argTypes := #[47, 25] }, type := 4, pos := "outright.go:36", after := af, guard := some (10, true) }) #[{ on := 11, ground := Ground.data }, { on := 12, ground := Ground.data }, { on := 10, ground := Ground.chain }, { on := 10, ground := Ground.guard }] (by kernel_rfl) [11, 12, 10, 10] (by kernel_rfl) fun af v W hb hd => ?_
    have d10 : v 10 = (Value.bool true) := hd 10 (by decide)
    have d11 : v 11 = (Value.slice A4 2 c4) := hd 11 (by decide)
    have d12 : v 12 = (Value.agg (idC l3)) := hd 12 (by decide)
    have e101 := (Reg.gfr_eval (ops := (Reg.opsOf Tryd.f7 13)) (a0 := a0) (v := v) (L := [11, 12, 10, 10]) 101 11 (by kernel_rfl) (by rw [hsz]; omega)).trans d11
    have e102 := (Reg.gfr_eval (ops := (Reg.opsOf Tryd.f7 13)) (a0 := a0) (v := v) (L := [11, 12, 10, 10]) 102 12 (by kernel_rfl) (by rw [hsz]; omega)).trans d12
    have e100 := (Reg.gfr_eval (ops := (Reg.opsOf Tryd.f7 13)) (a0 := a0) (v := v) (L := [11, 12, 10, 10]) 100 10 (by kernel_rfl) (by rw [hsz]; omega)).trans d10
    refine ⟨Reg.wanted_of rfl (by kernel_rfl) e100, ?_⟩
    have eF : ∀ f, (Reg.gfr (Reg.opsOf Tryd.f7 13) a0 v [11, 12, 10, 10]).eval (.func f) = .func (.func f) #[] #[] := fun _ => rfl
    generalize Reg.gfr (Reg.opsOf Tryd.f7 13) a0 v [11, 12, 10, 10] = G at e101 e102 eF ⊢
    generalize hρ : G.eval = ρ at e101 e102 eF
    have hρ' : G.eval = ρ := hρ
    refine Reg.go_call 19 #[(Value.slice A4 2 c4), (Value.agg (idC l3))] (by rw [hρ']; simp [execOp, go_sem, e101, e102, eF]) ((hhas3 W hb).mono fun e w' he => ?_)
    obtain ⟨rfl, hbb_⟩ := he
    exact ⟨_, rfl, hbb_, rfl⟩
set_option maxHeartbeats 4000000 in
set_option maxRecDepth 20000 in
theorem hn13_h14 :
    Reg.OpOK Tryd.prog (Reg.opsOf Tryd.f7 13) a0 w0 (hn13R t1 t2 t3 c4 A4 l1 l2 l3) (fun _ _ _ _ => True) 14 := by
    refine Reg.op_ok2 (fun af => { dst := some 104, op := Op.unOp UnOp.not 4 (Operand.tmp 103), type := 4, pos := "outright.go:36", after := af, guard := some (10, true) }) #[{ on := 13, ground := Ground.data }, { on := 10, ground := Ground.guard }] (by kernel_rfl) [13, 10] (by kernel_rfl) fun af v W hb hd => ?_
    have d10 : v 10 = (Value.bool true) := hd 10 (by decide)
    have d13 : v 13 = (Value.bool false) := hd 13 (by decide)
    have e103 := (Reg.gfr_eval (ops := (Reg.opsOf Tryd.f7 13)) (a0 := a0) (v := v) (L := [13, 10]) 103 13 (by kernel_rfl) (by rw [hsz]; omega)).trans d13
    have e100 := (Reg.gfr_eval (ops := (Reg.opsOf Tryd.f7 13)) (a0 := a0) (v := v) (L := [13, 10]) 100 10 (by kernel_rfl) (by rw [hsz]; omega)).trans d10
    refine ⟨Reg.wanted_of rfl (by kernel_rfl) e100, ?_⟩
    generalize Reg.gfr (Reg.opsOf Tryd.f7 13) a0 v [13, 10] = G at e103 ⊢
    generalize hρ : G.eval = ρ at e103
    have hρ' : G.eval = ρ := hρ
    refine Reg.go_run (Value.bool true) W ?_ ?_
    · rw [hρ']; simp [execOp, go_sem, e103]
    · exact ⟨Below.refl _ _, rfl⟩
set_option maxHeartbeats 4000000 in
set_option maxRecDepth 20000 in
theorem hn13_h15 :
    Reg.OpOK Tryd.prog (Reg.opsOf Tryd.f7 13) a0 w0 (hn13R t1 t2 t3 c4 A4 l1 l2 l3) (fun _ _ _ _ => True) 15 := by
    refine Reg.op_ok2 (fun af => { dst := some 105, op := Op.pick (Operand.tmp 100) (Operand.tmp 104) (Operand.const (Value.bool false)), type := 4, pos := "outright.go:36", after := af, guard := none }) #[{ on := 10, ground := Ground.data }, { on := 14, ground := Ground.data }] (by kernel_rfl) [10, 14] (by kernel_rfl) fun af v W hb hd => ?_
    have d10 : v 10 = (Value.bool true) := hd 10 (by decide)
    have d14 : v 14 = (Value.bool true) := hd 14 (by decide)
    have e100 := (Reg.gfr_eval (ops := (Reg.opsOf Tryd.f7 13)) (a0 := a0) (v := v) (L := [10, 14]) 100 10 (by kernel_rfl) (by rw [hsz]; omega)).trans d10
    have e104 := (Reg.gfr_eval (ops := (Reg.opsOf Tryd.f7 13)) (a0 := a0) (v := v) (L := [10, 14]) 104 14 (by kernel_rfl) (by rw [hsz]; omega)).trans d14
    refine ⟨Reg.wanted_none rfl, ?_⟩
    have eC : ∀ x, (Reg.gfr (Reg.opsOf Tryd.f7 13) a0 v [10, 14]).eval (.const x) = x := fun _ => rfl
    generalize Reg.gfr (Reg.opsOf Tryd.f7 13) a0 v [10, 14] = G at e100 e104 eC ⊢
    generalize hρ : G.eval = ρ at e100 e104 eC
    have hρ' : G.eval = ρ := hρ
    refine Reg.go_run (Value.bool true) W ?_ ?_
    · rw [hρ']; simp [execOp, go_sem, e100, e104, eC]
    · exact ⟨Below.refl _ _, rfl⟩
set_option maxHeartbeats 4000000 in
set_option maxRecDepth 20000 in
theorem hn13_h16 :
    Reg.OpOK Tryd.prog (Reg.opsOf Tryd.f7 13) a0 w0 (hn13R t1 t2 t3 c4 A4 l1 l2 l3) (fun _ _ _ _ => True) 16 := by
    refine Reg.op_ok2 (fun af => { dst := some 106, op := Op.move (Operand.tmp 105), type := 4, pos := "outright.go:36", after := af, guard := none }) #[{ on := 15, ground := Ground.data }, { on := 13, ground := Ground.chain }] (by kernel_rfl) [15, 13] (by kernel_rfl) fun af v W hb hd => ?_
    have d15 : v 15 = (Value.bool true) := hd 15 (by decide)
    have e105 := (Reg.gfr_eval (ops := (Reg.opsOf Tryd.f7 13)) (a0 := a0) (v := v) (L := [15, 13]) 105 15 (by kernel_rfl) (by rw [hsz]; omega)).trans d15
    refine ⟨Reg.wanted_none rfl, ?_⟩
    generalize Reg.gfr (Reg.opsOf Tryd.f7 13) a0 v [15, 13] = G at e105 ⊢
    generalize hρ : G.eval = ρ at e105
    have hρ' : G.eval = ρ := hρ
    refine Reg.go_run (Value.bool true) W ?_ ?_
    · rw [hρ']; simp [execOp, go_sem, e105]
    · exact ⟨Below.refl _ _, rfl⟩
set_option maxHeartbeats 4000000 in
set_option maxRecDepth 20000 in
theorem hn13_h17 :
    Reg.OpOK Tryd.prog (Reg.opsOf Tryd.f7 13) a0 w0 (hn13R t1 t2 t3 c4 A4 l1 l2 l3) (fun _ _ _ _ => True) 17 := by
    refine Reg.op_ok2 (fun af => { dst := some 107, op := Op.move (Operand.tmp 16), type := 47, pos := "outright.go:36", after := af, guard := some (16, true) }) #[{ on := 16, ground := Ground.guard }] (by kernel_rfl) [16] (by kernel_rfl) fun af v W hb hd => ?_
    have d16 : v 16 = (Value.bool true) := hd 16 (by decide)
    have e16 := (Reg.gfr_eval0 (ops := (Reg.opsOf Tryd.f7 13)) (a0 := a0) (v := v) (L := [16]) 16 (by kernel_rfl)).trans i16
    have e106 := (Reg.gfr_eval (ops := (Reg.opsOf Tryd.f7 13)) (a0 := a0) (v := v) (L := [16]) 106 16 (by kernel_rfl) (by rw [hsz]; omega)).trans d16
    refine ⟨Reg.wanted_of rfl (by kernel_rfl) e106, ?_⟩
    generalize Reg.gfr (Reg.opsOf Tryd.f7 13) a0 v [16] = G at e16 ⊢
    generalize hρ : G.eval = ρ at e16
    have hρ' : G.eval = ρ := hρ
    refine Reg.go_run (Value.slice A4 2 c4) W ?_ ?_
    · rw [hρ']; simp [execOp, go_sem, e16]
    · exact ⟨Below.refl _ _, rfl⟩
set_option maxHeartbeats 4000000 in
set_option maxRecDepth 20000 in
theorem hn13_h18 :
    Reg.OpOK Tryd.prog (Reg.opsOf Tryd.f7 13) a0 w0 (hn13R t1 t2 t3 c4 A4 l1 l2 l3) (fun _ _ _ _ => True) 18 := by
    refine Reg.op_ok2 (fun af => { dst := some 108, op := Op.load 25 (Operand.tmp 14), type := 25, pos := "outright.go:36", after := af, guard := some (16, true) }) #[{ on := 16, ground := Ground.guard }] (by kernel_rfl) [16] (by kernel_rfl) fun af v W hb hd => ?_
    have d16 : v 16 = (Value.bool true) := hd 16 (by decide)
    have e14 := (Reg.gfr_eval0 (ops := (Reg.opsOf Tryd.f7 13)) (a0 := a0) (v := v) (L := [16]) 14 (by kernel_rfl)).trans i14
    have e106 := (Reg.gfr_eval (ops := (Reg.opsOf Tryd.f7 13)) (a0 := a0) (v := v) (L := [16]) 106 16 (by kernel_rfl) (by rw [hsz]; omega)).trans d16
    refine ⟨Reg.wanted_of rfl (by kernel_rfl) e106, ?_⟩
    generalize Reg.gfr (Reg.opsOf Tryd.f7 13) a0 v [16] = G at e14 ⊢
    generalize hρ : G.eval = ρ at e14
    have hρ' : G.eval = ρ := hρ
    exact fun K hK => wp_load_row 25 (.tmp 14) rfl t1 (by rw [hρ']; exact e14) 25 (idC l1) (0, 0) _ (M_t1 W hb) Tryd.underlying25 rfl hT1 (hK _ _ ⟨Below.refl _ _, rfl⟩)
set_option maxHeartbeats 4000000 in
set_option maxRecDepth 20000 in
theorem hn13_h19 :
    Reg.OpOK Tryd.prog (Reg.opsOf Tryd.f7 13) a0 w0 (hn13R t1 t2 t3 c4 A4 l1 l2 l3) (fun _ _ _ _ => True) 19 := by
    refine Reg.op_ok2 (fun af => { dst := some 109, op := Op.buildSlice 47 1 #[(0, Operand.tmp 108)], type := 47, pos := "outright.go:36", after := af, guard := some (16, true) }) #[{ on := 18, ground := Ground.data }, { on := 16, ground := Ground.guard }] (by kernel_rfl) [18, 16] (by kernel_rfl) fun af v W hb hd => ?_
    have d16 : v 16 = (Value.bool true) := hd 16 (by decide)
    have d18 : v 18 = (Value.agg (idC l1)) := hd 18 (by decide)
    have e108 := (Reg.gfr_eval (ops := (Reg.opsOf Tryd.f7 13)) (a0 := a0) (v := v) (L := [18, 16]) 108 18 (by kernel_rfl) (by rw [hsz]; omega)).trans d18
    have e106 := (Reg.gfr_eval (ops := (Reg.opsOf Tryd.f7 13)) (a0 := a0) (v := v) (L := [18, 16]) 106 16 (by kernel_rfl) (by rw [hsz]; omega)).trans d16
    refine ⟨Reg.wanted_of rfl (by kernel_rfl) e106, ?_⟩
    generalize Reg.gfr (Reg.opsOf Tryd.f7 13) a0 v [18, 16] = G at e108 ⊢
    generalize hρ : G.eval = ρ at e108
    have hρ' : G.eval = ρ := hρ
    refine fun K hK => wp_ids [l1] (by simp [hl1, hl2, hl3]) (by simp) (by simp) _ rfl (by rw [hρ']; simp [e108]) (hK (.slice (some ⟨W.heap.size, 0, none⟩) 1 1) (W.alloc (.cells (idsC [l1]).toArray 25)) ⟨(Below.refl _ _).alloc (Nat.le_refl _) _, ⟨_, rfl, heap_alloc_new _ _⟩⟩)
set_option maxHeartbeats 4000000 in
set_option maxRecDepth 20000 in
theorem hn13_h20 :
    Reg.OpOK Tryd.prog (Reg.opsOf Tryd.f7 13) a0 w0 (hn13R t1 t2 t3 c4 A4 l1 l2 l3) (fun _ _ _ _ => True) 20 := by
    refine Reg.op_ok2 (fun af => { dst := some 110, op := Op.call { callee := Callee.value (Operand.func 20), args := #[Operand.tmp 107, Operand.tmp 109], argTypes := #[47, 47] }, type := 47, pos := "outright.go:36", after := af, guard := some (16, true) }) #[{ on := 17, ground := Ground.data }, { on := 19, ground := Ground.data }, { on := 16, ground := Ground.chain }, { on := 16, ground := Ground.guard }] (by kernel_rfl) [17, 19, 16, 16] (by kernel_rfl) fun af v W hb hd => ?_
    have d16 : v 16 = (Value.bool true) := hd 16 (by decide)
    have d17 : v 17 = (Value.slice A4 2 c4) := hd 17 (by decide)
    have d19 : ((fun u_ w_ => ∃ b_, u_ = Value.slice (some ⟨b_, 0, none⟩) 1 1 ∧ w_.heap[b_]? = some (.cells (idsC [l1]).toArray 25 (0, 0)))) (v 19) W := hd 19 (by decide)
    have e107 := (Reg.gfr_eval (ops := (Reg.opsOf Tryd.f7 13)) (a0 := a0) (v := v) (L := [17, 19, 16, 16]) 107 17 (by kernel_rfl) (by rw [hsz]; omega)).trans d17
    have e109 := Reg.gfr_eval (ops := (Reg.opsOf Tryd.f7 13)) (a0 := a0) (v := v) (L := [17, 19, 16, 16]) 109 19 (by kernel_rfl) (by rw [hsz]; omega)
    have e106 := (Reg.gfr_eval (ops := (Reg.opsOf Tryd.f7 13)) (a0 := a0) (v := v) (L := [17, 19, 16, 16]) 106 16 (by kernel_rfl) (by rw [hsz]; omega)).trans d16
    refine ⟨Reg.wanted_of rfl (by kernel_rfl) e106, ?_⟩
    have eF : ∀ f, (Reg.gfr (Reg.opsOf Tryd.f7 13) a0 v [17, 19, 16, 16]).eval (.func f) = .func (.func f) #[] #[] := fun _ => rfl
    generalize Reg.gfr (Reg.opsOf Tryd.f7 13) a0 v [17, 19, 16, 16] = G at e107 e109 eF ⊢
    generalize hρ : G.eval = ρ at e107 e109 eF
    have hρ' : G.eval = ρ := hρ
    obtain ⟨b_, hv_, hc_⟩ := d19
    rw [hv_] at e109
    refine Reg.go_call 20 #[(Value.slice A4 2 c4), (Value.slice (some ⟨b_, 0, none⟩) 1 1)] (by rw [hρ']; simp [execOp, go_sem, e107, e109, eF]) ((hless W b_ hb hc_).mono fun e w' he => ?_)
    obtain ⟨⟨A_, c_, rfl, hr_⟩, hbb_⟩ := he
    exact ⟨_, rfl, hbb_, ⟨A_, c_, rfl, hr_⟩⟩
set_option maxHeartbeats 4000000 in
set_option maxRecDepth 20000 in
theorem hn13_h21 :
    Reg.OpOK Tryd.prog (Reg.opsOf Tryd.f7 13) a0 w0 (hn13R t1 t2 t3 c4 A4 l1 l2 l3) (fun _ _ _ _ => True) 21 := by
    refine Reg.op_ok2 (fun af => { dst := some 111, op := Op.load 25 (Operand.tmp 15), type := 25, pos := "outright.go:36", after := af, guard := some (16, true) }) #[{ on := 16, ground := Ground.guard }] (by kernel_rfl) [16] (by kernel_rfl) fun af v W hb hd => ?_
    have d16 : v 16 = (Value.bool true) := hd 16 (by decide)
    have e15 := (Reg.gfr_eval0 (ops := (Reg.opsOf Tryd.f7 13)) (a0 := a0) (v := v) (L := [16]) 15 (by kernel_rfl)).trans i15
    have e106 := (Reg.gfr_eval (ops := (Reg.opsOf Tryd.f7 13)) (a0 := a0) (v := v) (L := [16]) 106 16 (by kernel_rfl) (by rw [hsz]; omega)).trans d16
    refine ⟨Reg.wanted_of rfl (by kernel_rfl) e106, ?_⟩
    generalize Reg.gfr (Reg.opsOf Tryd.f7 13) a0 v [16] = G at e15 ⊢
    generalize hρ : G.eval = ρ at e15
    have hρ' : G.eval = ρ := hρ
    exact fun K hK => wp_load_row 25 (.tmp 15) rfl t2 (by rw [hρ']; exact e15) 25 (idC l2) (0, 0) _ (M_t2 W hb) Tryd.underlying25 rfl hT2 (hK _ _ ⟨Below.refl _ _, rfl⟩)
set_option maxHeartbeats 4000000 in
set_option maxRecDepth 20000 in
theorem hn13_h22 :
    Reg.OpOK Tryd.prog (Reg.opsOf Tryd.f7 13) a0 w0 (hn13R t1 t2 t3 c4 A4 l1 l2 l3) (fun _ _ _ _ => True) 22 := by
    refine Reg.op_ok2 (fun af => { dst := some 112, op := Op.buildSlice 47 1 #[(0, Operand.tmp 111)], type := 47, pos := "outright.go:36", after := af, guard := some (16, true) }) #[{ on := 21, ground := Ground.data }, { on := 16, ground := Ground.guard }] (by kernel_rfl) [21, 16] (by kernel_rfl) fun af v W hb hd => ?_
    have d16 : v 16 = (Value.bool true) := hd 16 (by decide)
    have d21 : v 21 = (Value.agg (idC l2)) := hd 21 (by decide)
    have e111 := (Reg.gfr_eval (ops := (Reg.opsOf Tryd.f7 13)) (a0 := a0) (v := v) (L := [21, 16]) 111 21 (by kernel_rfl) (by rw [hsz]; omega)).trans d21
    have e106 := (Reg.gfr_eval (ops := (Reg.opsOf Tryd.f7 13)) (a0 := a0) (v := v) (L := [21, 16]) 106 16 (by kernel_rfl) (by rw [hsz]; omega)).trans d16
    refine ⟨Reg.wanted_of rfl (by kernel_rfl) e106, ?_⟩
    generalize Reg.gfr (Reg.opsOf Tryd.f7 13) a0 v [21, 16] = G at e111 ⊢
    generalize hρ : G.eval = ρ at e111
    have hρ' : G.eval = ρ := hρ
    refine fun K hK => wp_ids [l2] (by simp [hl1, hl2, hl3]) (by simp) (by simp) _ rfl (by rw [hρ']; simp [e111]) (hK (.slice (some ⟨W.heap.size, 0, none⟩) 1 1) (W.alloc (.cells (idsC [l2]).toArray 25)) ⟨(Below.refl _ _).alloc (Nat.le_refl _) _, ⟨_, rfl, heap_alloc_new _ _⟩⟩)
set_option maxHeartbeats 4000000 in
set_option maxRecDepth 20000 in
theorem hn13_h23 :
    Reg.OpOK Tryd.prog (Reg.opsOf Tryd.f7 13) a0 w0 (hn13R t1 t2 t3 c4 A4 l1 l2 l3) (fun _ _ _ _ => True) 23 := by
    refine Reg.op_ok2 (fun af => { dst := some 113, op := Op.call { callee := Callee.value (Operand.func 21), args := #[Operand.tmp 110, Operand.tmp 112], argTypes := #[47, 47] }, type := 4, pos := "outright.go:36", after := af, guard := some (16, true) }) #[{ on := 20, ground := Ground.data }, { on := 22, ground := Ground.data }, { on := 20, ground := Ground.chain }, { on := 16, ground := Ground.guard }] (by kernel_rfl) [20, 22, 20, 16] (by kernel_rfl) fun af v W hb hd => ?_
    have d16 : v 16 = (Value.bool true) := hd 16 (by decide)
    have d20 : ((fun u_ w_ => ∃ A_ c_, u_ = Value.slice A_ 1 c_ ∧ RdIds w_ A_ [l2])) (v 20) W := hd 20 (by decide)
    have d22 : ((fun u_ w_ => ∃ b_, u_ = Value.slice (some ⟨b_, 0, none⟩) 1 1 ∧ w_.heap[b_]? = some (.cells (idsC [l2]).toArray 25 (0, 0)))) (v 22) W := hd 22 (by decide)
    have e110 := Reg.gfr_eval (ops := (Reg.opsOf Tryd.f7 13)) (a0 := a0) (v := v) (L := [20, 22, 20, 16]) 110 20 (by kernel_rfl) (by rw [hsz]; omega)
    have e112 := Reg.gfr_eval (ops := (Reg.opsOf Tryd.f7 13)) (a0 := a0) (v := v) (L := [20, 22, 20, 16]) 112 22 (by kernel_rfl) (by rw [hsz]; omega)
    have e106 := (Reg.gfr_eval (ops := (Reg.opsOf Tryd.f7 13)) (a0 := a0) (v := v) (L := [20, 22, 20, 16]) 106 16 (by kernel_rfl) (by rw [hsz]; omega)).trans d16
    refine ⟨Reg.wanted_of rfl (by kernel_rfl) e106, ?_⟩
    have eF : ∀ f, (Reg.gfr (Reg.opsOf Tryd.f7 13) a0 v [20, 22, 20, 16]).eval (.func f) = .func (.func f) #[] #[] := fun _ => rfl
    generalize Reg.gfr (Reg.opsOf Tryd.f7 13) a0 v [20, 22, 20, 16] = G at e110 e112 eF ⊢
    generalize hρ : G.eval = ρ at e110 e112 eF
    have hρ' : G.eval = ρ := hρ
    obtain ⟨A_, c_, hv_, hr_⟩ := d20
    rw [hv_] at e110
    obtain ⟨b_, hv2_, hc_⟩ := d22
    rw [hv2_] at e112
    refine Reg.go_call 21 #[(Value.slice A_ 1 c_), (Value.slice (some ⟨b_, 0, none⟩) 1 1)] (by rw [hρ']; simp [execOp, go_sem, e110, e112, eF]) ((hsame2 W A_ c_ b_ hb hr_ hc_).mono fun e w' he => ?_)
    obtain ⟨rfl, hbb_⟩ := he
    exact ⟨_, rfl, hbb_, rfl⟩
set_option maxHeartbeats 4000000 in
set_option maxRecDepth 20000 in
theorem hn13_h24 :
    Reg.OpOK Tryd.prog (Reg.opsOf Tryd.f7 13) a0 w0 (hn13R t1 t2 t3 c4 A4 l1 l2 l3) (fun _ _ _ _ => True) 24 := by
    refine Reg.op_ok2 (fun af => { dst := some 114, op := Op.pick (Operand.tmp 106) (Operand.tmp 113) (Operand.const (Value.bool false)), type := 4, pos := "outright.go:36", after := af, guard := none }) #[{ on := 16, ground := Ground.data }, { on := 23, ground := Ground.data }] (by kernel_rfl) [16, 23] (by kernel_rfl) fun af v W hb hd => ?_
    have d16 : v 16 = (Value.bool true) := hd 16 (by decide)
    have d23 : v 23 = (Value.bool true) := hd 23 (by decide)
    have e106 := (Reg.gfr_eval (ops := (Reg.opsOf Tryd.f7 13)) (a0 := a0) (v := v) (L := [16, 23]) 106 16 (by kernel_rfl) (by rw [hsz]; omega)).trans d16
    have e113 := (Reg.gfr_eval (ops := (Reg.opsOf Tryd.f7 13)) (a0 := a0) (v := v) (L := [16, 23]) 113 23 (by kernel_rfl) (by rw [hsz]; omega)).trans d23
    refine ⟨Reg.wanted_none rfl, ?_⟩
    have eC : ∀ x, (Reg.gfr (Reg.opsOf Tryd.f7 13) a0 v [16, 23]).eval (.const x) = x := fun _ => rfl
    generalize Reg.gfr (Reg.opsOf Tryd.f7 13) a0 v [16, 23] = G at e106 e113 eC ⊢
    generalize hρ : G.eval = ρ at e106 e113 eC
    have hρ' : G.eval = ρ := hρ
    refine Reg.go_run (Value.bool true) W ?_ ?_
    · rw [hρ']; simp [execOp, go_sem, e106, e113, eC]
    · exact ⟨Below.refl _ _, rfl⟩
set_option maxHeartbeats 4000000 in
set_option maxRecDepth 20000 in
theorem hn13_h25 :
    Reg.OpOK Tryd.prog (Reg.opsOf Tryd.f7 13) a0 w0 (hn13R t1 t2 t3 c4 A4 l1 l2 l3) (fun _ _ _ _ => True) 25 := by
    refine Reg.op_ok2 (fun af => { dst := some 115, op := Op.move (Operand.tmp 114), type := 4, pos := "outright.go:36", after := af, guard := none }) #[{ on := 24, ground := Ground.data }, { on := 23, ground := Ground.chain }] (by kernel_rfl) [24, 23] (by kernel_rfl) fun af v W hb hd => ?_
    have d24 : v 24 = (Value.bool true) := hd 24 (by decide)
    have e114 := (Reg.gfr_eval (ops := (Reg.opsOf Tryd.f7 13)) (a0 := a0) (v := v) (L := [24, 23]) 114 24 (by kernel_rfl) (by rw [hsz]; omega)).trans d24
    refine ⟨Reg.wanted_none rfl, ?_⟩
    generalize Reg.gfr (Reg.opsOf Tryd.f7 13) a0 v [24, 23] = G at e114 ⊢
    generalize hρ : G.eval = ρ at e114
    have hρ' : G.eval = ρ := hρ
    refine Reg.go_run (Value.bool true) W ?_ ?_
    · rw [hρ']; simp [execOp, go_sem, e114]
    · exact ⟨Below.refl _ _, rfl⟩
set_option maxHeartbeats 4000000 in
set_option maxRecDepth 20000 in
theorem hn13_h26 :
    Reg.OpOK Tryd.prog (Reg.opsOf Tryd.f7 13) a0 w0 (hn13R t1 t2 t3 c4 A4 l1 l2 l3) (fun _ _ _ _ => True) 26 := by
    refine Reg.op_ok2 (fun af => { dst := some 116, op := Op.call { callee := Callee.value (Operand.func 17), args := #[Operand.const (Value.slice none 0 0)], argTypes := #[47] }, type := 47, pos := "outright.go:36", after := af, guard := some (25, true) }) #[{ on := 25, ground := Ground.chain }, { on := 25, ground := Ground.guard }] (by kernel_rfl) [25, 25] (by kernel_rfl) fun af v W hb hd => ?_
    have d25 : v 25 = (Value.bool true) := hd 25 (by decide)
    have e115 := (Reg.gfr_eval (ops := (Reg.opsOf Tryd.f7 13)) (a0 := a0) (v := v) (L := [25, 25]) 115 25 (by kernel_rfl) (by rw [hsz]; omega)).trans d25
    refine ⟨Reg.wanted_of rfl (by kernel_rfl) e115, ?_⟩
    have eF : ∀ f, (Reg.gfr (Reg.opsOf Tryd.f7 13) a0 v [25, 25]).eval (.func f) = .func (.func f) #[] #[] := fun _ => rfl
    have eC : ∀ x, (Reg.gfr (Reg.opsOf Tryd.f7 13) a0 v [25, 25]).eval (.const x) = x := fun _ => rfl
    generalize Reg.gfr (Reg.opsOf Tryd.f7 13) a0 v [25, 25] = G at eF eC ⊢
    generalize hρ : G.eval = ρ at eF eC
    have hρ' : G.eval = ρ := hρ
    refine Reg.go_call 17 #[(Value.slice none 0 0)] (by rw [hρ']; simp [execOp, go_sem, eF, eC]) ((hset0 W hb).mono fun e w' he => ?_)
    obtain ⟨⟨A_, c_, rfl⟩, hbb_⟩ := he
    exact ⟨_, rfl, hbb_, ⟨A_, c_, rfl⟩⟩
set_option maxHeartbeats 4000000 in
set_option maxRecDepth 20000 in
theorem hn13_h27 :
    Reg.OpOK Tryd.prog (Reg.opsOf Tryd.f7 13) a0 w0 (hn13R t1 t2 t3 c4 A4 l1 l2 l3) (fun _ _ _ _ => True) 27 := by
    refine Reg.op_ok2 (fun af => { dst := some 117, op := Op.call { callee := Callee.builtin Builtin.len, args := #[Operand.tmp 116], argTypes := #[47] }, type := 3, pos := "outright.go:36", after := af, guard := some (25, true) }) #[{ on := 26, ground := Ground.data }, { on := 25, ground := Ground.guard }] (by kernel_rfl) [26, 25] (by kernel_rfl) fun af v W hb hd => ?_
    have d25 : v 25 = (Value.bool true) := hd 25 (by decide)
    have d26 : ((fun u_ _ => ∃ A_ c_, u_ = Value.slice A_ 0 c_)) (v 26) W := hd 26 (by decide)
    have e116 := Reg.gfr_eval (ops := (Reg.opsOf Tryd.f7 13)) (a0 := a0) (v := v) (L := [26, 25]) 116 26 (by kernel_rfl) (by rw [hsz]; omega)
    have e115 := (Reg.gfr_eval (ops := (Reg.opsOf Tryd.f7 13)) (a0 := a0) (v := v) (L := [26, 25]) 115 25 (by kernel_rfl) (by rw [hsz]; omega)).trans d25
    refine ⟨Reg.wanted_of rfl (by kernel_rfl) e115, ?_⟩
    generalize Reg.gfr (Reg.opsOf Tryd.f7 13) a0 v [26, 25] = G at e116 ⊢
    generalize hρ : G.eval = ρ at e116
    have hρ' : G.eval = ρ := hρ
    obtain ⟨A_, c_, hv_⟩ := d26
    rw [hv_] at e116
    refine Reg.go_run (Value.int IntKind.i64 0) W (by rw [hρ']; simp [execOp, go_sem, e116]) ⟨Below.refl _ _, rfl⟩
set_option maxHeartbeats 4000000 in
set_option maxRecDepth 20000 in
theorem hn13_h28 :
    Reg.OpOK Tryd.prog (Reg.opsOf Tryd.f7 13) a0 w0 (hn13R t1 t2 t3 c4 A4 l1 l2 l3) (fun _ _ _ _ => True) 28 := by
    refine Reg.op_ok2 (fun af => { dst := some 118, op := Op.binOp BinOp.eql 3 (Operand.tmp 117) (Operand.const (Value.int IntKind.i64 0)) 3, type := 4, pos := "outright.go:36", after := af, guard := some (25, true) }) #[{ on := 27, ground := Ground.data }, { on := 25, ground := Ground.guard }] (by kernel_rfl) [27, 25] (by kernel_rfl) fun af v W hb hd => ?_
    have d25 : v 25 = (Value.bool true) := hd 25 (by decide)
    have d27 : v 27 = (Value.int IntKind.i64 0) := hd 27 (by decide)
    have e117 := (Reg.gfr_eval (ops := (Reg.opsOf Tryd.f7 13)) (a0 := a0) (v := v) (L := [27, 25]) 117 27 (by kernel_rfl) (by rw [hsz]; omega)).trans d27
    have e115 := (Reg.gfr_eval (ops := (Reg.opsOf Tryd.f7 13)) (a0 := a0) (v := v) (L := [27, 25]) 115 25 (by kernel_rfl) (by rw [hsz]; omega)).trans d25
    refine ⟨Reg.wanted_of rfl (by kernel_rfl) e115, ?_⟩
    have eC : ∀ x, (Reg.gfr (Reg.opsOf Tryd.f7 13) a0 v [27, 25]).eval (.const x) = x := fun _ => rfl
    generalize Reg.gfr (Reg.opsOf Tryd.f7 13) a0 v [27, 25] = G at e117 eC ⊢
    generalize hρ : G.eval = ρ at e117 eC
    have hρ' : G.eval = ρ := hρ
    refine Reg.go_run (Value.bool true) W ?_ ?_
    · rw [hρ']; simp [execOp, go_sem, e117, eC]
    · exact ⟨Below.refl _ _, rfl⟩
set_option maxHeartbeats 4000000 in
set_option maxRecDepth 20000 in
theorem hn13_h29 :
    Reg.OpOK Tryd.prog (Reg.opsOf Tryd.f7 13) a0 w0 (hn13R t1 t2 t3 c4 A4 l1 l2 l3) (fun _ _ _ _ => True) 29 := by
    refine Reg.op_ok2 (fun af => { dst := some 119, op := Op.pick (Operand.tmp 115) (Operand.tmp 118) (Operand.const (Value.bool false)), type := 4, pos := "outright.go:36", after := af, guard := none }) #[{ on := 25, ground := Ground.data }, { on := 28, ground := Ground.data }] (by kernel_rfl) [25, 28] (by kernel_rfl) fun af v W hb hd => ?_
    have d25 : v 25 = (Value.bool true) := hd 25 (by decide)
    have d28 : v 28 = (Value.bool true) := hd 28 (by decide)
    have e115 := (Reg.gfr_eval (ops := (Reg.opsOf Tryd.f7 13)) (a0 := a0) (v := v) (L := [25, 28]) 115 25 (by kernel_rfl) (by rw [hsz]; omega)).trans d25
    have e118 := (Reg.gfr_eval (ops := (Reg.opsOf Tryd.f7 13)) (a0 := a0) (v := v) (L := [25, 28]) 118 28 (by kernel_rfl) (by rw [hsz]; omega)).trans d28
    refine ⟨Reg.wanted_none rfl, ?_⟩
    have eC : ∀ x, (Reg.gfr (Reg.opsOf Tryd.f7 13) a0 v [25, 28]).eval (.const x) = x := fun _ => rfl
    generalize Reg.gfr (Reg.opsOf Tryd.f7 13) a0 v [25, 28] = G at e115 e118 eC ⊢
    generalize hρ : G.eval = ρ at e115 e118 eC
    have hρ' : G.eval = ρ := hρ
    refine Reg.go_run (Value.bool true) W ?_ ?_
    · rw [hρ']; simp [execOp, go_sem, e115, e118, eC]
    · exact ⟨Below.refl _ _, rfl⟩
set_option maxHeartbeats 4000000 in
set_option maxRecDepth 20000 in
theorem hn13_h30 :
    Reg.OpOK Tryd.prog (Reg.opsOf Tryd.f7 13) a0 w0 (hn13R t1 t2 t3 c4 A4 l1 l2 l3) (fun _ _ _ _ => True) 30 := by
    refine Reg.op_ok2 (fun af => { dst := some 120, op := Op.move (Operand.tmp 119), type := 4, pos := "outright.go:36", after := af, guard := none }) #[{ on := 29, ground := Ground.data }, { on := 26, ground := Ground.chain }] (by kernel_rfl) [29, 26] (by kernel_rfl) fun af v W hb hd => ?_
    have d29 : v 29 = (Value.bool true) := hd 29 (by decide)
    have e119 := (Reg.gfr_eval (ops := (Reg.opsOf Tryd.f7 13)) (a0 := a0) (v := v) (L := [29, 26]) 119 29 (by kernel_rfl) (by rw [hsz]; omega)).trans d29
    refine ⟨Reg.wanted_none rfl, ?_⟩
    generalize Reg.gfr (Reg.opsOf Tryd.f7 13) a0 v [29, 26] = G at e119 ⊢
    generalize hρ : G.eval = ρ at e119
    have hρ' : G.eval = ρ := hρ
    refine Reg.go_run (Value.bool true) W ?_ ?_
    · rw [hρ']; simp [execOp, go_sem, e119]
    · exact ⟨Below.refl _ _, rfl⟩
set_option maxHeartbeats 4000000 in
set_option maxRecDepth 20000 in
theorem hn13_h31 :
    Reg.OpOK Tryd.prog (Reg.opsOf Tryd.f7 13) a0 w0 (hn13R t1 t2 t3 c4 A4 l1 l2 l3) (fun _ _ _ _ => True) 31 := by
    refine Reg.op_ok2 (fun af => { dst := some 121, op := Op.load 25 (Operand.tmp 14), type := 25, pos := "outright.go:36", after := af, guard := some (30, true) }) #[{ on := 30, ground := Ground.guard }] (by kernel_rfl) [30] (by kernel_rfl) fun af v W hb hd => ?_
    have d30 : v 30 = (Value.bool true) := hd 30 (by decide)
    have e14 := (Reg.gfr_eval0 (ops := (Reg.opsOf Tryd.f7 13)) (a0 := a0) (v := v) (L := [30]) 14 (by kernel_rfl)).trans i14
    have e120 := (Reg.gfr_eval (ops := (Reg.opsOf Tryd.f7 13)) (a0 := a0) (v := v) (L := [30]) 120 30 (by kernel_rfl) (by rw [hsz]; omega)).trans d30
    refine ⟨Reg.wanted_of rfl (by kernel_rfl) e120, ?_⟩
    generalize Reg.gfr (Reg.opsOf Tryd.f7 13) a0 v [30] = G at e14 ⊢
    generalize hρ : G.eval = ρ at e14
    have hρ' : G.eval = ρ := hρ
    exact fun K hK => wp_load_row 25 (.tmp 14) rfl t1 (by rw [hρ']; exact e14) 25 (idC l1) (0, 0) _ (M_t1 W hb) Tryd.underlying25 rfl hT1 (hK _ _ ⟨Below.refl _ _, rfl⟩)
set_option maxHeartbeats 4000000 in
set_option maxRecDepth 20000 in
theorem hn13_h32 :
    Reg.OpOK Tryd.prog (Reg.opsOf Tryd.f7 13) a0 w0 (hn13R t1 t2 t3 c4 A4 l1 l2 l3) (fun _ _ _ _ => True) 32 := by
    refine Reg.op_ok2 (fun af => { dst := some 122, op := Op.load 25 (Operand.tmp 15), type := 25, pos := "outright.go:36", after := af, guard := some (30, true) }) #[{ on := 30, ground := Ground.guard }] (by kernel_rfl) [30] (by kernel_rfl) fun af v W hb hd => ?_
    have d30 : v 30 = (Value.bool true) := hd 30 (by decide)
    have e15 := (Reg.gfr_eval0 (ops := (Reg.opsOf Tryd.f7 13)) (a0 := a0) (v := v) (L := [30]) 15 (by kernel_rfl)).trans i15
    have e120 := (Reg.gfr_eval (ops := (Reg.opsOf Tryd.f7 13)) (a0 := a0) (v := v) (L := [30]) 120 30 (by kernel_rfl) (by rw [hsz]; omega)).trans d30
    refine ⟨Reg.wanted_of rfl (by kernel_rfl) e120, ?_⟩
    generalize Reg.gfr (Reg.opsOf Tryd.f7 13) a0 v [30] = G at e15 ⊢
    generalize hρ : G.eval = ρ at e15
    have hρ' : G.eval = ρ := hρ
    exact fun K hK => wp_load_row 25 (.tmp 15) rfl t2 (by rw [hρ']; exact e15) 25 (idC l2) (0, 0) _ (M_t2 W hb) Tryd.underlying25 rfl hT2 (hK _ _ ⟨Below.refl _ _, rfl⟩)
set_option maxHeartbeats 4000000 in
set_option maxRecDepth 20000 in
theorem hn13_h33 :
    Reg.OpOK Tryd.prog (Reg.opsOf Tryd.f7 13) a0 w0 (hn13R t1 t2 t3 c4 A4 l1 l2 l3) (fun _ _ _ _ => True) 33 := by
    refine Reg.op_ok2 (fun af => { dst := some 123, op := Op.call { callee := Callee.value (Operand.func 16), args := #[Operand.tmp 121, Operand.tmp 122], argTypes := #[25, 25] }, type := 3, pos := "outright.go:36", after := af, guard := some (30, true) }) #[{ on := 31, ground := Ground.data }, { on := 32, ground := Ground.data }, { on := 30, ground := Ground.chain }, { on := 30, ground := Ground.guard }] (by kernel_rfl) [31, 32, 30, 30] (by kernel_rfl) fun af v W hb hd => ?_
    have d30 : v 30 = (Value.bool true) := hd 30 (by decide)
    have d31 : v 31 = (Value.agg (idC l1)) := hd 31 (by decide)
    have d32 : v 32 = (Value.agg (idC l2)) := hd 32 (by decide)
    have e121 := (Reg.gfr_eval (ops := (Reg.opsOf Tryd.f7 13)) (a0 := a0) (v := v) (L := [31, 32, 30, 30]) 121 31 (by kernel_rfl) (by rw [hsz]; omega)).trans d31
    have e122 := (Reg.gfr_eval (ops := (Reg.opsOf Tryd.f7 13)) (a0 := a0) (v := v) (L := [31, 32, 30, 30]) 122 32 (by kernel_rfl) (by rw [hsz]; omega)).trans d32
    have e120 := (Reg.gfr_eval (ops := (Reg.opsOf Tryd.f7 13)) (a0 := a0) (v := v) (L := [31, 32, 30, 30]) 120 30 (by kernel_rfl) (by rw [hsz]; omega)).trans d30
    refine ⟨Reg.wanted_of rfl (by kernel_rfl) e120, ?_⟩
    have eF : ∀ f, (Reg.gfr (Reg.opsOf Tryd.f7 13) a0 v [31, 32, 30, 30]).eval (.func f) = .func (.func f) #[] #[] := fun _ => rfl
    generalize Reg.gfr (Reg.opsOf Tryd.f7 13) a0 v [31, 32, 30, 30] = G at e121 e122 eF ⊢
    generalize hρ : G.eval = ρ at e121 e122 eF
    have hρ' : G.eval = ρ := hρ
    refine Reg.go_call 16 #[(Value.agg (idC l1)), (Value.agg (idC l2))] (by rw [hρ']; simp [execOp, go_sem, e121, e122, eF]) ((hc1 W hb).mono fun e w' he => ?_)
    obtain ⟨rfl, hbb_⟩ := he
    exact ⟨_, rfl, hbb_, rfl⟩
set_option maxHeartbeats 4000000 in
set_option maxRecDepth 20000 in
theorem hn13_h34 :
    Reg.OpOK Tryd.prog (Reg.opsOf Tryd.f7 13) a0 w0 (hn13R t1 t2 t3 c4 A4 l1 l2 l3) (fun _ _ _ _ => True) 34 := by
    refine Reg.op_ok2 (fun af => { dst := some 124, op := Op.binOp BinOp.eql 3 (Operand.tmp 123) (Operand.const (Value.int IntKind.i64 1)) 3, type := 4, pos := "outright.go:36", after := af, guard := some (30, true) }) #[{ on := 33, ground := Ground.data }, { on := 30, ground := Ground.guard }] (by kernel_rfl) [33, 30] (by kernel_rfl) fun af v W hb hd => ?_
    have d30 : v 30 = (Value.bool true) := hd 30 (by decide)
    have d33 : v 33 = (Value.int IntKind.i64 1) := hd 33 (by decide)
    have e123 := (Reg.gfr_eval (ops := (Reg.opsOf Tryd.f7 13)) (a0 := a0) (v := v) (L := [33, 30]) 123 33 (by kernel_rfl) (by rw [hsz]; omega)).trans d33
    have e120 := (Reg.gfr_eval (ops := (Reg.opsOf Tryd.f7 13)) (a0 := a0) (v := v) (L := [33, 30]) 120 30 (by kernel_rfl) (by rw [hsz]; omega)).trans d30
    refine ⟨Reg.wanted_of rfl (by kernel_rfl) e120, ?_⟩
    have eC : ∀ x, (Reg.gfr (Reg.opsOf Tryd.f7 13) a0 v [33, 30]).eval (.const x) = x := fun _ => rfl
    generalize Reg.gfr (Reg.opsOf Tryd.f7 13) a0 v [33, 30] = G at e123 eC ⊢
    generalize hρ : G.eval = ρ at e123 eC
    have hρ' : G.eval = ρ := hρ
    refine Reg.go_run (Value.bool true) W ?_ ?_
    · rw [hρ']; simp [execOp, go_sem, e123, eC]
    · exact ⟨Below.refl _ _, rfl⟩
set_option maxHeartbeats 4000000 in
set_option maxRecDepth 20000 in
theorem hn13_h35 :
    Reg.OpOK Tryd.prog (Reg.opsOf Tryd.f7 13) a0 w0 (hn13R t1 t2 t3 c4 A4 l1 l2 l3) (fun _ _ _ _ => True) 35 := by
    refine Reg.op_ok2 (fun af => { dst := some 125, op := Op.pick (Operand.tmp 120) (Operand.tmp 124) (Operand.const (Value.bool false)), type := 4, pos := "outright.go:36", after := af, guard := none }) #[{ on := 30, ground := Ground.data }, { on := 34, ground := Ground.data }] (by kernel_rfl) [30, 34] (by kernel_rfl) fun af v W hb hd => ?_
    have d30 : v 30 = (Value.bool true) := hd 30 (by decide)
    have d34 : v 34 = (Value.bool true) := hd 34 (by decide)
    have e120 := (Reg.gfr_eval (ops := (Reg.opsOf Tryd.f7 13)) (a0 := a0) (v := v) (L := [30, 34]) 120 30 (by kernel_rfl) (by rw [hsz]; omega)).trans d30
    have e124 := (Reg.gfr_eval (ops := (Reg.opsOf Tryd.f7 13)) (a0 := a0) (v := v) (L := [30, 34]) 124 34 (by kernel_rfl) (by rw [hsz]; omega)).trans d34
    refine ⟨Reg.wanted_none rfl, ?_⟩
    have eC : ∀ x, (Reg.gfr (Reg.opsOf Tryd.f7 13) a0 v [30, 34]).eval (.const x) = x := fun _ => rfl
    generalize Reg.gfr (Reg.opsOf Tryd.f7 13) a0 v [30, 34] = G at e120 e124 eC ⊢
    generalize hρ : G.eval = ρ at e120 e124 eC
    have hρ' : G.eval = ρ := hρ
    refine Reg.go_run (Value.bool true) W ?_ ?_
    · rw [hρ']; simp [execOp, go_sem, e120, e124, eC]
    · exact ⟨Below.refl _ _, rfl⟩
set_option maxHeartbeats 4000000 in
set_option maxRecDepth 20000 in
theorem hn13_h36 :
    Reg.OpOK Tryd.prog (Reg.opsOf Tryd.f7 13) a0 w0 (hn13R t1 t2 t3 c4 A4 l1 l2 l3) (fun _ _ _ _ => True) 36 := by
    refine Reg.op_ok2 (fun af => { dst := some 126, op := Op.move (Operand.tmp 125), type := 4, pos := "outright.go:36", after := af, guard := none }) #[{ on := 35, ground := Ground.data }, { on := 33, ground := Ground.chain }] (by kernel_rfl) [35, 33] (by kernel_rfl) fun af v W hb hd => ?_
    have d35 : v 35 = (Value.bool true) := hd 35 (by decide)
    have e125 := (Reg.gfr_eval (ops := (Reg.opsOf Tryd.f7 13)) (a0 := a0) (v := v) (L := [35, 33]) 125 35 (by kernel_rfl) (by rw [hsz]; omega)).trans d35
    refine ⟨Reg.wanted_none rfl, ?_⟩
    generalize Reg.gfr (Reg.opsOf Tryd.f7 13) a0 v [35, 33] = G at e125 ⊢
    generalize hρ : G.eval = ρ at e125
    have hρ' : G.eval = ρ := hρ
    refine Reg.go_run (Value.bool true) W ?_ ?_
    · rw [hρ']; simp [execOp, go_sem, e125]
    · exact ⟨Below.refl _ _, rfl⟩
set_option maxHeartbeats 4000000 in
set_option maxRecDepth 20000 in
theorem hn13_h37 :
    Reg.OpOK Tryd.prog (Reg.opsOf Tryd.f7 13) a0 w0 (hn13R t1 t2 t3 c4 A4 l1 l2 l3) (fun _ _ _ _ => True) 37 := by
    refine Reg.op_ok2 (fun af => { dst := some 127, op := Op.load 25 (Operand.tmp 15), type := 25, pos := "outright.go:36", after := af, guard := some (36, true) }) #[{ on := 36, ground := Ground.guard }] (by kernel_rfl) [36] (by kernel_rfl) fun af v W hb hd => ?_
    have d36 : v 36 = (Value.bool true) := hd 36 (by decide)
    have e15 := (Reg.gfr_eval0 (ops := (Reg.opsOf Tryd.f7 13)) (a0 := a0) (v := v) (L := [36]) 15 (by kernel_rfl)).trans i15
    have e126 := (Reg.gfr_eval (ops := (Reg.opsOf Tryd.f7 13)) (a0 := a0) (v := v) (L := [36]) 126 36 (by kernel_rfl) (by rw [hsz]; omega)).trans d36
    refine ⟨Reg.wanted_of rfl (by kernel_rfl) e126, ?_⟩
    generalize Reg.gfr (Reg.opsOf Tryd.f7 13) a0 v [36] = G at e15 ⊢
    generalize hρ : G.eval = ρ at e15
    have hρ' : G.eval = ρ := hρ
    exact fun K hK => wp_load_row 25 (.tmp 15) rfl t2 (by rw [hρ']; exact e15) 25 (idC l2) (0, 0) _ (M_t2 W hb) Tryd.underlying25 rfl hT2 (hK _ _ ⟨Below.refl _ _, rfl⟩)
set_option maxHeartbeats 4000000 in
set_option maxRecDepth 20000 in
theorem hn13_h38 :
    Reg.OpOK Tryd.prog (Reg.opsOf Tryd.f7 13) a0 w0 (hn13R t1 t2 t3 c4 A4 l1 l2 l3) (fun _ _ _ _ => True) 38 := by
    refine Reg.op_ok2 (fun af => { dst := some 128, op := Op.load 25 (Operand.tmp 14), type := 25, pos := "outright.go:36", after := af, guard := some (36, true) }) #[{ on := 36, ground := Ground.guard }] (by kernel_rfl) [36] (by kernel_rfl) fun af v W hb hd => ?_
    have d36 : v 36 = (Value.bool true) := hd 36 (by decide)
    have e14 := (Reg.gfr_eval0 (ops := (Reg.opsOf Tryd.f7 13)) (a0 := a0) (v := v) (L := [36]) 14 (by kernel_rfl)).trans i14
    have e126 := (Reg.gfr_eval (ops := (Reg.opsOf Tryd.f7 13)) (a0 := a0) (v := v) (L := [36]) 126 36 (by kernel_rfl) (by rw [hsz]; omega)).trans d36
    refine ⟨Reg.wanted_of rfl (by kernel_rfl) e126, ?_⟩
    generalize Reg.gfr (Reg.opsOf Tryd.f7 13) a0 v [36] = G at e14 ⊢
    generalize hρ : G.eval = ρ at e14
    have hρ' : G.eval = ρ := hρ
    exact fun K hK => wp_load_row 25 (.tmp 14) rfl t1 (by rw [hρ']; exact e14) 25 (idC l1) (0, 0) _ (M_t1 W hb) Tryd.underlying25 rfl hT1 (hK _ _ ⟨Below.refl _ _, rfl⟩)
set_option maxHeartbeats 4000000 in
set_option maxRecDepth 20000 in
theorem hn13_h39 :
    Reg.OpOK Tryd.prog (Reg.opsOf Tryd.f7 13) a0 w0 (hn13R t1 t2 t3 c4 A4 l1 l2 l3) (fun _ _ _ _ => True) 39 := by
    refine Reg.op_ok2 (fun af => { dst := some 129, op := Op.call { callee := Callee.value (Operand.func 16), args := #[Operand.tmp 127, Operand.tmp 128], argTypes := #[25, 25] }, type := 3, pos := "outright.go:36", after := af, guard := some (36, true) }) #[{ on := 37, ground := Ground.data }, { on := 38, ground := Ground.data }, { on := 36, ground := Ground.chain }, { on := 36, ground := Ground.guard }] (by kernel_rfl) [37, 38, 36, 36] (by kernel_rfl) fun af v W hb hd => ?_
    have d36 : v 36 = (Value.bool true) := hd 36 (by decide)
    have d37 : v 37 = (Value.agg (idC l2)) := hd 37 (by decide)
    have d38 : v 38 = (Value.agg (idC l1)) := hd 38 (by decide)
    have e127 := (Reg.gfr_eval (ops := (Reg.opsOf Tryd.f7 13)) (a0 := a0) (v := v) (L := [37, 38, 36, 36]) 127 37 (by kernel_rfl) (by rw [hsz]; omega)).trans d37
    have e128 := (Reg.gfr_eval (ops := (Reg.opsOf Tryd.f7 13)) (a0 := a0) (v := v) (L := [37, 38, 36, 36]) 128 38 (by kernel_rfl) (by rw [hsz]; omega)).trans d38
    have e126 := (Reg.gfr_eval (ops := (Reg.opsOf Tryd.f7 13)) (a0 := a0) (v := v) (L := [37, 38, 36, 36]) 126 36 (by kernel_rfl) (by rw [hsz]; omega)).trans d36
    refine ⟨Reg.wanted_of rfl (by kernel_rfl) e126, ?_⟩
    have eF : ∀ f, (Reg.gfr (Reg.opsOf Tryd.f7 13) a0 v [37, 38, 36, 36]).eval (.func f) = .func (.func f) #[] #[] := fun _ => rfl
    generalize Reg.gfr (Reg.opsOf Tryd.f7 13) a0 v [37, 38, 36, 36] = G at e127 e128 eF ⊢
    generalize hρ : G.eval = ρ at e127 e128 eF
    have hρ' : G.eval = ρ := hρ
    refine Reg.go_call 16 #[(Value.agg (idC l2)), (Value.agg (idC l1))] (by rw [hρ']; simp [execOp, go_sem, e127, e128, eF]) ((hc2 W hb).mono fun e w' he => ?_)
    obtain ⟨rfl, hbb_⟩ := he
    exact ⟨_, rfl, hbb_, rfl⟩
set_option maxHeartbeats 4000000 in
set_option maxRecDepth 20000 in
theorem hn13_h40 :
    Reg.OpOK Tryd.prog (Reg.opsOf Tryd.f7 13) a0 w0 (hn13R t1 t2 t3 c4 A4 l1 l2 l3) (fun _ _ _ _ => True) 40 := by
    refine Reg.op_ok2 (fun af => { dst := some 130, op := Op.binOp BinOp.eql 3 (Operand.tmp 129) (Operand.const (Value.int IntKind.i64 (-1))) 3, type := 4, pos := "outright.go:36", after := af, guard := some (36, true) }) #[{ on := 39, ground := Ground.data }, { on := 36, ground := Ground.guard }] (by kernel_rfl) [39, 36] (by kernel_rfl) fun af v W hb hd => ?_
    have d36 : v 36 = (Value.bool true) := hd 36 (by decide)
    have d39 : v 39 = (Value.int IntKind.i64 (-1)) := hd 39 (by decide)
    have e129 := (Reg.gfr_eval (ops := (Reg.opsOf Tryd.f7 13)) (a0 := a0) (v := v) (L := [39, 36]) 129 39 (by kernel_rfl) (by rw [hsz]; omega)).trans d39
    have e126 := (Reg.gfr_eval (ops := (Reg.opsOf Tryd.f7 13)) (a0 := a0) (v := v) (L := [39, 36]) 126 36 (by kernel_rfl) (by rw [hsz]; omega)).trans d36
    refine ⟨Reg.wanted_of rfl (by kernel_rfl) e126, ?_⟩
    have eC : ∀ x, (Reg.gfr (Reg.opsOf Tryd.f7 13) a0 v [39, 36]).eval (.const x) = x := fun _ => rfl
    generalize Reg.gfr (Reg.opsOf Tryd.f7 13) a0 v [39, 36] = G at e129 eC ⊢
    generalize hρ : G.eval = ρ at e129 eC
    have hρ' : G.eval = ρ := hρ
    refine Reg.go_run (Value.bool true) W ?_ ?_
    · rw [hρ']; simp [execOp, go_sem, e129, eC]
    · exact ⟨Below.refl _ _, rfl⟩
set_option maxHeartbeats 4000000 in
set_option maxRecDepth 20000 in
theorem hn13_h41 :
    Reg.OpOK Tryd.prog (Reg.opsOf Tryd.f7 13) a0 w0 (hn13R t1 t2 t3 c4 A4 l1 l2 l3) (fun _ _ _ _ => True) 41 := by
    refine Reg.op_ok2 (fun af => { dst := some 131, op := Op.pick (Operand.tmp 126) (Operand.tmp 130) (Operand.const (Value.bool false)), type := 4, pos := "outright.go:36", after := af, guard := none }) #[{ on := 36, ground := Ground.data }, { on := 40, ground := Ground.data }] (by kernel_rfl) [36, 40] (by kernel_rfl) fun af v W hb hd => ?_
    have d36 : v 36 = (Value.bool true) := hd 36 (by decide)
    have d40 : v 40 = (Value.bool true) := hd 40 (by decide)
    have e126 := (Reg.gfr_eval (ops := (Reg.opsOf Tryd.f7 13)) (a0 := a0) (v := v) (L := [36, 40]) 126 36 (by kernel_rfl) (by rw [hsz]; omega)).trans d36
    have e130 := (Reg.gfr_eval (ops := (Reg.opsOf Tryd.f7 13)) (a0 := a0) (v := v) (L := [36, 40]) 130 40 (by kernel_rfl) (by rw [hsz]; omega)).trans d40
    refine ⟨Reg.wanted_none rfl, ?_⟩
    have eC : ∀ x, (Reg.gfr (Reg.opsOf Tryd.f7 13) a0 v [36, 40]).eval (.const x) = x := fun _ => rfl
    generalize Reg.gfr (Reg.opsOf Tryd.f7 13) a0 v [36, 40] = G at e126 e130 eC ⊢
    generalize hρ : G.eval = ρ at e126 e130 eC
    have hρ' : G.eval = ρ := hρ
    refine Reg.go_run (Value.bool true) W ?_ ?_
    · rw [hρ']; simp [execOp, go_sem, e126, e130, eC]
    · exact ⟨Below.refl _ _, rfl⟩
set_option maxHeartbeats 4000000 in
set_option maxRecDepth 20000 in
theorem hn13_h42 :
    Reg.OpOK Tryd.prog (Reg.opsOf Tryd.f7 13) a0 w0 (hn13R t1 t2 t3 c4 A4 l1 l2 l3) (fun _ _ _ _ => True) 42 := by
    refine Reg.op_ok2 (fun af => { dst := some 132, op := Op.move (Operand.tmp 131), type := 4, pos := "outright.go:36", after := af, guard := none }) #[{ on := 41, ground := Ground.data }, { on := 39, ground := Ground.chain }] (by kernel_rfl) [41, 39] (by kernel_rfl) fun af v W hb hd => ?_
    have d41 : v 41 = (Value.bool true) := hd 41 (by decide)
    have e131 := (Reg.gfr_eval (ops := (Reg.opsOf Tryd.f7 13)) (a0 := a0) (v := v) (L := [41, 39]) 131 41 (by kernel_rfl) (by rw [hsz]; omega)).trans d41
    refine ⟨Reg.wanted_none rfl, ?_⟩
    generalize Reg.gfr (Reg.opsOf Tryd.f7 13) a0 v [41, 39] = G at e131 ⊢
    generalize hρ : G.eval = ρ at e131
    have hρ' : G.eval = ρ := hρ
    refine Reg.go_run (Value.bool true) W ?_ ?_
    · rw [hρ']; simp [execOp, go_sem, e131]
    · exact ⟨Below.refl _ _, rfl⟩
set_option maxHeartbeats 4000000 in
set_option maxRecDepth 20000 in
theorem hn13_h43 :
    Reg.OpOK Tryd.prog (Reg.opsOf Tryd.f7 13) a0 w0 (hn13R t1 t2 t3 c4 A4 l1 l2 l3) (fun _ _ _ _ => True) 43 := by
    refine Reg.op_ok2 (fun af => { dst := some 133, op := Op.load 25 (Operand.tmp 14), type := 25, pos := "outright.go:36", after := af, guard := some (42, true) }) #[{ on := 42, ground := Ground.guard }] (by kernel_rfl) [42] (by kernel_rfl) fun af v W hb hd => ?_
    have d42 : v 42 = (Value.bool true) := hd 42 (by decide)
    have e14 := (Reg.gfr_eval0 (ops := (Reg.opsOf Tryd.f7 13)) (a0 := a0) (v := v) (L := [42]) 14 (by kernel_rfl)).trans i14
    have e132 := (Reg.gfr_eval (ops := (Reg.opsOf Tryd.f7 13)) (a0 := a0) (v := v) (L := [42]) 132 42 (by kernel_rfl) (by rw [hsz]; omega)).trans d42
    refine ⟨Reg.wanted_of rfl (by kernel_rfl) e132, ?_⟩
    generalize Reg.gfr (Reg.opsOf Tryd.f7 13) a0 v [42] = G at e14 ⊢
    generalize hρ : G.eval = ρ at e14
    have hρ' : G.eval = ρ := hρ
    exact fun K hK => wp_load_row 25 (.tmp 14) rfl t1 (by rw [hρ']; exact e14) 25 (idC l1) (0, 0) _ (M_t1 W hb) Tryd.underlying25 rfl hT1 (hK _ _ ⟨Below.refl _ _, rfl⟩)
set_option maxHeartbeats 4000000 in
set_option maxRecDepth 20000 in
theorem hn13_h44 :
    Reg.OpOK Tryd.prog (Reg.opsOf Tryd.f7 13) a0 w0 (hn13R t1 t2 t3 c4 A4 l1 l2 l3) (fun _ _ _ _ => True) 44 := by
    refine Reg.op_ok2 (fun af => { dst := some 134, op := Op.load 25 (Operand.tmp 14), type := 25, pos := "outright.go:36", after := af, guard := some (42, true) }) #[{ on := 42, ground := Ground.guard }] (by kernel_rfl) [42] (by kernel_rfl) fun af v W hb hd => ?_
    have d42 : v 42 = (Value.bool true) := hd 42 (by decide)
    have e14 := (Reg.gfr_eval0 (ops := (Reg.opsOf Tryd.f7 13)) (a0 := a0) (v := v) (L := [42]) 14 (by kernel_rfl)).trans i14
    have e132 := (Reg.gfr_eval (ops := (Reg.opsOf Tryd.f7 13)) (a0 := a0) (v := v) (L := [42]) 132 42 (by kernel_rfl) (by rw [hsz]; omega)).trans d42
    refine ⟨Reg.wanted_of rfl (by kernel_rfl) e132, ?_⟩
    generalize Reg.gfr (Reg.opsOf Tryd.f7 13) a0 v [42] = G at e14 ⊢
    generalize hρ : G.eval = ρ at e14
    have hρ' : G.eval = ρ := hρ
    exact fun K hK => wp_load_row 25 (.tmp 14) rfl t1 (by rw [hρ']; exact e14) 25 (idC l1) (0, 0) _ (M_t1 W hb) Tryd.underlying25 rfl hT1 (hK _ _ ⟨Below.refl _ _, rfl⟩)
set_option maxHeartbeats 4000000 in
set_option maxRecDepth 20000 in
theorem hn13_h45 :
    Reg.OpOK Tryd.prog (Reg.opsOf Tryd.f7 13) a0 w0 (hn13R t1 t2 t3 c4 A4 l1 l2 l3) (fun _ _ _ _ => True) 45 := by
    refine Reg.op_ok2 (fun af => { dst := some 135, op := Op.call { callee := Callee.value (Operand.func 16), args := #[Operand.tmp 133, Operand.tmp 134], argTypes := #[25, 25] }, type := 3, pos := "outright.go:36", after := af, guard := some (42, true) }) #[{ on := 43, ground := Ground.data }, { on := 44, ground := Ground.data }, { on := 42, ground := Ground.chain }, { on := 42, ground := Ground.guard }] (by kernel_rfl) [43, 44, 42, 42] (by kernel_rfl) fun af v W hb hd => ?_
    have d42 : v 42 = (Value.bool true) := hd 42 (by decide)
    have d43 : v 43 = (Value.agg (idC l1)) := hd 43 (by decide)
    have d44 : v 44 = (Value.agg (idC l1)) := hd 44 (by decide)
    have e133 := (Reg.gfr_eval (ops := (Reg.opsOf Tryd.f7 13)) (a0 := a0) (v := v) (L := [43, 44, 42, 42]) 133 43 (by kernel_rfl) (by rw [hsz]; omega)).trans d43
    have e134 := (Reg.gfr_eval (ops := (Reg.opsOf Tryd.f7 13)) (a0 := a0) (v := v) (L := [43, 44, 42, 42]) 134 44 (by kernel_rfl) (by rw [hsz]; omega)).trans d44
    have e132 := (Reg.gfr_eval (ops := (Reg.opsOf Tryd.f7 13)) (a0 := a0) (v := v) (L := [43, 44, 42, 42]) 132 42 (by kernel_rfl) (by rw [hsz]; omega)).trans d42
    refine ⟨Reg.wanted_of rfl (by kernel_rfl) e132, ?_⟩
    have eF : ∀ f, (Reg.gfr (Reg.opsOf Tryd.f7 13) a0 v [43, 44, 42, 42]).eval (.func f) = .func (.func f) #[] #[] := fun _ => rfl
    generalize Reg.gfr (Reg.opsOf Tryd.f7 13) a0 v [43, 44, 42, 42] = G at e133 e134 eF ⊢
    generalize hρ : G.eval = ρ at e133 e134 eF
    have hρ' : G.eval = ρ := hρ
    refine Reg.go_call 16 #[(Value.agg (idC l1)), (Value.agg (idC l1))] (by rw [hρ']; simp [execOp, go_sem, e133, e134, eF]) ((hc3 W hb).mono fun e w' he => ?_)
    obtain ⟨rfl, hbb_⟩ := he
    exact ⟨_, rfl, hbb_, rfl⟩
set_option maxHeartbeats 4000000 in
set_option maxRecDepth 20000 in
theorem hn13_h46 :
    Reg.OpOK Tryd.prog (Reg.opsOf Tryd.f7 13) a0 w0 (hn13R t1 t2 t3 c4 A4 l1 l2 l3) (fun _ _ _ _ => True) 46 := by
    refine Reg.op_ok2 (fun af => { dst := some 136, op := Op.binOp BinOp.eql 3 (Operand.tmp 135) (Operand.const (Value.int IntKind.i64 0)) 3, type := 4, pos := "outright.go:36", after := af, guard := some (42, true) }) #[{ on := 45, ground := Ground.data }, { on := 42, ground := Ground.guard }] (by kernel_rfl) [45, 42] (by kernel_rfl) fun af v W hb hd => ?_
    have d42 : v 42 = (Value.bool true) := hd 42 (by decide)
    have d45 : v 45 = (Value.int IntKind.i64 0) := hd 45 (by decide)
    have e135 := (Reg.gfr_eval (ops := (Reg.opsOf Tryd.f7 13)) (a0 := a0) (v := v) (L := [45, 42]) 135 45 (by kernel_rfl) (by rw [hsz]; omega)).trans d45
    have e132 := (Reg.gfr_eval (ops := (Reg.opsOf Tryd.f7 13)) (a0 := a0) (v := v) (L := [45, 42]) 132 42 (by kernel_rfl) (by rw [hsz]; omega)).trans d42
    refine ⟨Reg.wanted_of rfl (by kernel_rfl) e132, ?_⟩
    have eC : ∀ x, (Reg.gfr (Reg.opsOf Tryd.f7 13) a0 v [45, 42]).eval (.const x) = x := fun _ => rfl
    generalize Reg.gfr (Reg.opsOf Tryd.f7 13) a0 v [45, 42] = G at e135 eC ⊢
    generalize hρ : G.eval = ρ at e135 eC
    have hρ' : G.eval = ρ := hρ
    refine Reg.go_run (Value.bool true) W ?_ ?_
    · rw [hρ']; simp [execOp, go_sem, e135, eC]
    · exact ⟨Below.refl _ _, rfl⟩
set_option maxHeartbeats 4000000 in
set_option maxRecDepth 20000 in
theorem hn13_h47 :
    Reg.OpOK Tryd.prog (Reg.opsOf Tryd.f7 13) a0 w0 (hn13R t1 t2 t3 c4 A4 l1 l2 l3) (fun _ _ _ _ => True) 47 := by
    refine Reg.op_ok2 (fun af => { dst := some 137, op := Op.pick (Operand.tmp 132) (Operand.tmp 136) (Operand.const (Value.bool false)), type := 4, pos := "outright.go:36", after := af, guard := none }) #[{ on := 42, ground := Ground.data }, { on := 46, ground := Ground.data }] (by kernel_rfl) [42, 46] (by kernel_rfl) fun af v W hb hd => ?_
    have d42 : v 42 = (Value.bool true) := hd 42 (by decide)
    have d46 : v 46 = (Value.bool true) := hd 46 (by decide)
    have e132 := (Reg.gfr_eval (ops := (Reg.opsOf Tryd.f7 13)) (a0 := a0) (v := v) (L := [42, 46]) 132 42 (by kernel_rfl) (by rw [hsz]; omega)).trans d42
    have e136 := (Reg.gfr_eval (ops := (Reg.opsOf Tryd.f7 13)) (a0 := a0) (v := v) (L := [42, 46]) 136 46 (by kernel_rfl) (by rw [hsz]; omega)).trans d46
    refine ⟨Reg.wanted_none rfl, ?_⟩
    have eC : ∀ x, (Reg.gfr (Reg.opsOf Tryd.f7 13) a0 v [42, 46]).eval (.const x) = x := fun _ => rfl
    generalize Reg.gfr (Reg.opsOf Tryd.f7 13) a0 v [42, 46] = G at e132 e136 eC ⊢
    generalize hρ : G.eval = ρ at e132 e136 eC
    have hρ' : G.eval = ρ := hρ
    refine Reg.go_run (Value.bool true) W ?_ ?_
    · rw [hρ']; simp [execOp, go_sem, e132, e136, eC]
    · exact ⟨Below.refl _ _, rfl⟩
set_option maxHeartbeats 4000000 in
set_option maxRecDepth 20000 in
theorem hn13_h48 :
    Reg.OpOK Tryd.prog (Reg.opsOf Tryd.f7 13) a0 w0 (hn13R t1 t2 t3 c4 A4 l1 l2 l3) (fun _ _ _ _ => True) 48 := by
    refine Reg.op_ok2 (fun af => { dst := some 20, op := Op.assign (Operand.tmp 137), type := 4, pos := "outright.go:36", after := af, guard := none }) #[{ on := 47, ground := Ground.data }, { on := 45, ground := Ground.chain }, { on := 0, ground := Ground.phase }, { on := 1, ground := Ground.phase }, { on := 2, ground := Ground.phase }, { on := 3, ground := Ground.phase }, { on := 4, ground := Ground.phase }, { on := 5, ground := Ground.phase }, { on := 6, ground := Ground.phase }, { on := 7, ground := Ground.phase }, { on := 8, ground := Ground.phase }, { on := 9, ground := Ground.phase }, { on := 10, ground := Ground.phase }, { on := 11, ground := Ground.phase }, { on := 12, ground := Ground.phase }, { on := 13, ground := Ground.phase }, { on := 14, ground := Ground.phase }, { on := 15, ground := Ground.phase }, { on := 16, ground := Ground.phase }, { on := 17, ground := Ground.phase }, { on := 18, ground := Ground.phase }, { on := 19, ground := Ground.phase }, { on := 20, ground := Ground.phase }, { on := 21, ground := Ground.phase }, { on := 22, ground := Ground.phase }, { on := 23, ground := Ground.phase }, { on := 24, ground := Ground.phase }, { on := 25, ground := Ground.phase }, { on := 26, ground := Ground.phase }, { on := 27, ground := Ground.phase }, { on := 28, ground := Ground.phase }, { on := 29, ground := Ground.phase }, { on := 30, ground := Ground.phase }, { on := 31, ground := Ground.phase }, { on := 32, ground := Ground.phase }, { on := 33, ground := Ground.phase }, { on := 34, ground := Ground.phase }, { on := 35, ground := Ground.phase }, { on := 36, ground := Ground.phase }, { on := 37, ground := Ground.phase }, { on := 38, ground := Ground.phase }, { on := 39, ground := Ground.phase }, { on := 40, ground := Ground.phase }, { on := 41, ground := Ground.phase }, { on := 42, ground := Ground.phase }, { on := 43, ground := Ground.phase }, { on := 44, ground := Ground.phase }, { on := 45, ground := Ground.phase }, { on := 46, ground := Ground.phase }, { on := 47, ground := Ground.phase }] (by kernel_rfl) [47, 45, 0, 1, 2, 3, 4, 5, 6, 7, 8, 9, 10, 11, 12, 13, 14, 15, 16, 17, 18, 19, 20, 21, 22, 23, 24, 25, 26, 27, 28, 29, 30, 31, 32, 33, 34, 35, 36, 37, 38, 39, 40, 41, 42, 43, 44, 45, 46, 47] (by kernel_rfl) fun af v W hb hd => ?_
    have d47 : v 47 = (Value.bool true) := hd 47 (by decide)
    have e137 := (Reg.gfr_eval (ops := (Reg.opsOf Tryd.f7 13)) (a0 := a0) (v := v) (L := [47, 45, 0, 1, 2, 3, 4, 5, 6, 7, 8, 9, 10, 11, 12, 13, 14, 15, 16, 17, 18, 19, 20, 21, 22, 23, 24, 25, 26, 27, 28, 29, 30, 31, 32, 33, 34, 35, 36, 37, 38, 39, 40, 41, 42, 43, 44, 45, 46, 47]) 137 47 (by kernel_rfl) (by rw [hsz]; omega)).trans d47
    refine ⟨Reg.wanted_none rfl, ?_⟩
    generalize Reg.gfr (Reg.opsOf Tryd.f7 13) a0 v [47, 45, 0, 1, 2, 3, 4, 5, 6, 7, 8, 9, 10, 11, 12, 13, 14, 15, 16, 17, 18, 19, 20, 21, 22, 23, 24, 25, 26, 27, 28, 29, 30, 31, 32, 33, 34, 35, 36, 37, 38, 39, 40, 41, 42, 43, 44, 45, 46, 47] = G at e137 ⊢
    generalize hρ : G.eval = ρ at e137
    have hρ' : G.eval = ρ := hρ
    refine Reg.go_run (Value.bool true) W ?_ ?_
    · rw [hρ']; simp [execOp, go_sem, e137]
    · exact ⟨Below.refl _ _, rfl⟩
end
set_option maxHeartbeats 4000000 in
set_option maxRecDepth 20000 in
theorem hn13 (t1 t2 t3 c4 : Nat) (A4 : Option Addr) (l1 l2 l3 : List UInt8) (w0 : World) {s0 s1 s3 s4 s5 s6 s7 s8 s9 s10 s11 s12 s13 s17 s18 s19 s20 s21 s22 s23 s24 s25 s26 s27 s28 s29 s30 s31 s32 s33 s34 s35 s36 s37 s38 s39 s40 s41 s42 s43 s44 s45 s46 s47 s48 s49 s50 s51 s52 s53 s54 s55 s56 s57 s58 s59 s60 s61 s62 s63 s64 s65 s66 s67 s68 s69 s70 s71 s72 s73 s74 s75 s76 s77 s78 s79 s80 s81 s82 s83 s84 s85 s86 s87 s88 s89 s90 s91 s92 s93 s94 s95 s96 s97 s98 s99 s100 s101 s102 s103 s104 s105 s106 s107 s108 s109 s110 s111 s112 s113 s114 s115 s116 s117 s118 s119 s120 s121 s122 s123 s124 s125 s126 s127 s128 s129 s130 s131 s132 s133 s134 s135 s136 s137 s138 s139 s140 s141 s142 s143 s144 s145 s146 s147 s148 s149 s150 s151 s152 s153 s154 s155 s156 s157 s158 s159 s160 s161 s162 s163 s164 s165 s166 s167 s168 s169 s170 s171 s172 s173 s174 s175 s176 s177 s178 s179 s180 s181 s182 s183 : Value}
    (hl1 : l1.length = 32) (hl2 : l2.length = 32) (hl3 : l3.length = 32)
    (hT1 : (Tryd.prog.info? 25).map (·.size) = some (idC l1).size)
    (hT2 : (Tryd.prog.info? 25).map (·.size) = some (idC l2).size)
    (hT3 : (Tryd.prog.info? 25).map (·.size) = some (idC l3).size)
    (hsame1 : ∀ W b, Below w0.heap.size w0 W → W.heap[b]? = some (.cells (idsC [l2, l1]).toArray 25 (0, 0)) → Calls Tryd.prog 21 #[(Value.slice A4 2 c4), .slice (some ⟨b, 0, none⟩) 2 2] W fun e w' => e = .returned (.bool true) ∧ Below W.heap.size W w')
    (hhas1 : ∀ W , Below w0.heap.size w0 W → Calls Tryd.prog 19 #[(Value.slice A4 2 c4), .agg (idC l1)] W fun e w' => e = .returned (.bool true) ∧ Below W.heap.size W w')
    (hhas3 : ∀ W , Below w0.heap.size w0 W → Calls Tryd.prog 19 #[(Value.slice A4 2 c4), .agg (idC l3)] W fun e w' => e = .returned (.bool false) ∧ Below W.heap.size W w')
    (hless : ∀ W b, Below w0.heap.size w0 W → W.heap[b]? = some (.cells (idsC [l1]).toArray 25 (0, 0)) → Calls Tryd.prog 20 #[(Value.slice A4 2 c4), .slice (some ⟨b, 0, none⟩) 1 1] W fun e w' => (∃ A c, e = .returned (.slice A 1 c) ∧ RdIds w' A [l2]) ∧ Below W.heap.size W w')
    (hsame2 : ∀ W A c b, Below w0.heap.size w0 W → RdIds W A [l2] → W.heap[b]? = some (.cells (idsC [l2]).toArray 25 (0, 0)) → Calls Tryd.prog 21 #[.slice A 1 c, .slice (some ⟨b, 0, none⟩) 1 1] W fun e w' => e = .returned (.bool true) ∧ Below W.heap.size W w')
    (hset0 : ∀ W, Below w0.heap.size w0 W → Calls Tryd.prog 17 #[.slice none 0 0] W fun e w' => (∃ A c, e = .returned (.slice A 0 c)) ∧ Below W.heap.size W w')
    (hc1 : ∀ W , Below w0.heap.size w0 W → Calls Tryd.prog 16 #[.agg (idC l1), .agg (idC l2)] W fun e w' => e = .returned (.int .i64 1) ∧ Below W.heap.size W w')
    (hc2 : ∀ W , Below w0.heap.size w0 W → Calls Tryd.prog 16 #[.agg (idC l2), .agg (idC l1)] W fun e w' => e = .returned (.int .i64 (-1)) ∧ Below W.heap.size W w')
    (hc3 : ∀ W , Below w0.heap.size w0 W → Calls Tryd.prog 16 #[.agg (idC l1), .agg (idC l1)] W fun e w' => e = .returned (.int .i64 0) ∧ Below W.heap.size W w')
    (M_t1 : ∀ W, Below w0.heap.size w0 W → W.heap[t1]? = some (.cells (idC l1) 25 (0, 0)))
    (M_t2 : ∀ W, Below w0.heap.size w0 W → W.heap[t2]? = some (.cells (idC l2) 25 (0, 0)))
    (M_t3 : ∀ W, Below w0.heap.size w0 W → W.heap[t3]? = some (.cells (idC l3) 25 (0, 0)))
    {Q : Exit → Act → World → Prop}
    (hend : ∀ (w : World) (r93 r109 r110 r112 r116 : Value), Below w0.heap.size w0 w → Q .normal { tmps := #[s0, s1, (Value.pointer (some ⟨t3, 0, none⟩)), s3, s4, s5, s6, s7, s8, s9, s10, s11, s12, s13, (Value.pointer (some ⟨t1, 0, none⟩)), (Value.pointer (some ⟨t2, 0, none⟩)), (Value.slice A4 2 c4), s17, s18, s19, (Value.bool true), s21, s22, s23, s24, s25, s26, s27, s28, s29, s30, s31, s32, s33, s34, s35, s36, s37, s38, s39, s40, s41, s42, s43, s44, s45, s46, s47, s48, s49, s50, s51, s52, s53, s54, s55, s56, s57, s58, s59, s60, s61, s62, s63, s64, s65, s66, s67, s68, s69, s70, s71, s72, s73, s74, s75, s76, s77, s78, s79, s80, s81, s82, s83, s84, s85, s86, s87, s88, s89, (Value.slice A4 2 c4), (Value.agg (idC l2)), (Value.agg (idC l1)), r93, (Value.bool true), (Value.bool true), (Value.slice A4 2 c4), (Value.agg (idC l1)), (Value.bool true), (Value.bool true), (Value.bool true), (Value.slice A4 2 c4), (Value.agg (idC l3)), (Value.bool false), (Value.bool true), (Value.bool true), (Value.bool true), (Value.slice A4 2 c4), (Value.agg (idC l1)), r109, r110, (Value.agg (idC l2)), r112, (Value.bool true), (Value.bool true), (Value.bool true), r116, (Value.int IntKind.i64 0), (Value.bool true), (Value.bool true), (Value.bool true), (Value.agg (idC l1)), (Value.agg (idC l2)), (Value.int IntKind.i64 1), (Value.bool true), (Value.bool true), (Value.bool true), (Value.agg (idC l2)), (Value.agg (idC l1)), (Value.int IntKind.i64 (-1)), (Value.bool true), (Value.bool true), (Value.bool true), (Value.agg (idC l1)), (Value.agg (idC l1)), (Value.int IntKind.i64 0), (Value.bool true), (Value.bool true), s138, s139, s140, s141, s142, s143, s144, s145, s146, s147, s148, s149, s150, s151, s152, s153, s154, s155, s156, s157, s158, s159, s160, s161, s162, s163, s164, s165, s166, s167, s168, s169, s170, s171, s172, s173, s174, s175, s176, s177, s178, s179, s180, s181, s182, s183], defers := [] } w) :
    (Code.region 13 (Reg.opsOf Tryd.f7 13) true).wp Tryd.prog Q { tmps := #[s0, s1, (Value.pointer (some ⟨t3, 0, none⟩)), s3, s4, s5, s6, s7, s8, s9, s10, s11, s12, s13, (Value.pointer (some ⟨t1, 0, none⟩)), (Value.pointer (some ⟨t2, 0, none⟩)), (Value.slice A4 2 c4), s17, s18, s19, s20, s21, s22, s23, s24, s25, s26, s27, s28, s29, s30, s31, s32, s33, s34, s35, s36, s37, s38, s39, s40, s41, s42, s43, s44, s45, s46, s47, s48, s49, s50, s51, s52, s53, s54, s55, s56, s57, s58, s59, s60, s61, s62, s63, s64, s65, s66, s67, s68, s69, s70, s71, s72, s73, s74, s75, s76, s77, s78, s79, s80, s81, s82, s83, s84, s85, s86, s87, s88, s89, s90, s91, s92, s93, s94, s95, s96, s97, s98, s99, s100, s101, s102, s103, s104, s105, s106, s107, s108, s109, s110, s111, s112, s113, s114, s115, s116, s117, s118, s119, s120, s121, s122, s123, s124, s125, s126, s127, s128, s129, s130, s131, s132, s133, s134, s135, s136, s137, s138, s139, s140, s141, s142, s143, s144, s145, s146, s147, s148, s149, s150, s151, s152, s153, s154, s155, s156, s157, s158, s159, s160, s161, s162, s163, s164, s165, s166, s167, s168, s169, s170, s171, s172, s173, s174, s175, s176, s177, s178, s179, s180, s181, s182, s183], defers := [] } w0 := by
  obtain ⟨a0, ha0⟩ : ∃ a0 : Act, a0 = { tmps := #[s0, s1, (Value.pointer (some ⟨t3, 0, none⟩)), s3, s4, s5, s6, s7, s8, s9, s10, s11, s12, s13, (Value.pointer (some ⟨t1, 0, none⟩)), (Value.pointer (some ⟨t2, 0, none⟩)), (Value.slice A4 2 c4), s17, s18, s19, s20, s21, s22, s23, s24, s25, s26, s27, s28, s29, s30, s31, s32, s33, s34, s35, s36, s37, s38, s39, s40, s41, s42, s43, s44, s45, s46, s47, s48, s49, s50, s51, s52, s53, s54, s55, s56, s57, s58, s59, s60, s61, s62, s63, s64, s65, s66, s67, s68, s69, s70, s71, s72, s73, s74, s75, s76, s77, s78, s79, s80, s81, s82, s83, s84, s85, s86, s87, s88, s89, s90, s91, s92, s93, s94, s95, s96, s97, s98, s99, s100, s101, s102, s103, s104, s105, s106, s107, s108, s109, s110, s111, s112, s113, s114, s115, s116, s117, s118, s119, s120, s121, s122, s123, s124, s125, s126, s127, s128, s129, s130, s131, s132, s133, s134, s135, s136, s137, s138, s139, s140, s141, s142, s143, s144, s145, s146, s147, s148, s149, s150, s151, s152, s153, s154, s155, s156, s157, s158, s159, s160, s161, s162, s163, s164, s165, s166, s167, s168, s169, s170, s171, s172, s173, s174, s175, s176, s177, s178, s179, s180, s181, s182, s183], defers := [] } := ⟨_, rfl⟩
  have hfin : ∀ v : Nat → Value, Reg.gfr (Reg.opsOf Tryd.f7 13) a0 v (List.range 49) = { tmps := #[s0, s1, (Value.pointer (some ⟨t3, 0, none⟩)), s3, s4, s5, s6, s7, s8, s9, s10, s11, s12, s13, (Value.pointer (some ⟨t1, 0, none⟩)), (Value.pointer (some ⟨t2, 0, none⟩)), (Value.slice A4 2 c4), s17, s18, s19, v 48, s21, s22, s23, s24, s25, s26, s27, s28, s29, s30, s31, s32, s33, s34, s35, s36, s37, s38, s39, s40, s41, s42, s43, s44, s45, s46, s47, s48, s49, s50, s51, s52, s53, s54, s55, s56, s57, s58, s59, s60, s61, s62, s63, s64, s65, s66, s67, s68, s69, s70, s71, s72, s73, s74, s75, s76, s77, s78, s79, s80, s81, s82, s83, s84, s85, s86, s87, s88, s89, v 0, v 1, v 2, v 3, v 4, v 5, v 6, v 7, v 8, v 9, v 10, v 11, v 12, v 13, v 14, v 15, v 16, v 17, v 18, v 19, v 20, v 21, v 22, v 23, v 24, v 25, v 26, v 27, v 28, v 29, v 30, v 31, v 32, v 33, v 34, v 35, v 36, v 37, v 38, v 39, v 40, v 41, v 42, v 43, v 44, v 45, v 46, v 47, s138, s139, s140, s141, s142, s143, s144, s145, s146, s147, s148, s149, s150, s151, s152, s153, s154, s155, s156, s157, s158, s159, s160, s161, s162, s163, s164, s165, s166, s167, s168, s169, s170, s171, s172, s173, s174, s175, s176, s177, s178, s179, s180, s181, s182, s183], defers := [] } := fun v => by rw [ha0]; kernel_rfl
  rw [← ha0]
  have i2 : a0.eval (.tmp 2) = (Value.pointer (some ⟨t3, 0, none⟩)) := by rw [ha0]; rfl
  have i14 : a0.eval (.tmp 14) = (Value.pointer (some ⟨t1, 0, none⟩)) := by rw [ha0]; rfl
  have i15 : a0.eval (.tmp 15) = (Value.pointer (some ⟨t2, 0, none⟩)) := by rw [ha0]; rfl
  have i16 : a0.eval (.tmp 16) = (Value.slice A4 2 c4) := by rw [ha0]; rfl
  have hsz : a0.tmps.size = 184 := by rw [ha0]; rfl
  clear ha0
  have hn : (Reg.opsOf Tryd.f7 13).size = 49 := by kernel_rfl
  have h0 := hn13_h0 t1 t2 t3 c4 A4 l1 l2 l3 w0 a0 hl1 hl2 hl3 hT1 hT2 hT3 hsame1 hhas1 hhas3 hless hsame2 hset0 hc1 hc2 hc3 M_t1 M_t2 M_t3 i2 i14 i15 i16 hsz
  have h1 := hn13_h1 t1 t2 t3 c4 A4 l1 l2 l3 w0 a0 hl1 hl2 hl3 hT1 hT2 hT3 hsame1 hhas1 hhas3 hless hsame2 hset0 hc1 hc2 hc3 M_t1 M_t2 M_t3 i2 i14 i15 i16 hsz
  have h2 := hn13_h2 t1 t2 t3 c4 A4 l1 l2 l3 w0 a0 hl1 hl2 hl3 hT1 hT2 hT3 hsame1 hhas1 hhas3 hless hsame2 hset0 hc1 hc2 hc3 M_t1 M_t2 M_t3 i2 i14 i15 i16 hsz
  have h3 := hn13_h3 t1 t2 t3 c4 A4 l1 l2 l3 w0 a0 hl1 hl2 hl3 hT1 hT2 hT3 hsame1 hhas1 hhas3 hless hsame2 hset0 hc1 hc2 hc3 M_t1 M_t2 M_t3 i2 i14 i15 i16 hsz
  have h4 := hn13_h4 t1 t2 t3 c4 A4 l1 l2 l3 w0 a0 hl1 hl2 hl3 hT1 hT2 hT3 hsame1 hhas1 hhas3 hless hsame2 hset0 hc1 hc2 hc3 M_t1 M_t2 M_t3 i2 i14 i15 i16 hsz
  have h5 := hn13_h5 t1 t2 t3 c4 A4 l1 l2 l3 w0 a0 hl1 hl2 hl3 hT1 hT2 hT3 hsame1 hhas1 hhas3 hless hsame2 hset0 hc1 hc2 hc3 M_t1 M_t2 M_t3 i2 i14 i15 i16 hsz
  have h6 := hn13_h6 t1 t2 t3 c4 A4 l1 l2 l3 w0 a0 hl1 hl2 hl3 hT1 hT2 hT3 hsame1 hhas1 hhas3 hless hsame2 hset0 hc1 hc2 hc3 M_t1 M_t2 M_t3 i2 i14 i15 i16 hsz
  have h7 := hn13_h7 t1 t2 t3 c4 A4 l1 l2 l3 w0 a0 hl1 hl2 hl3 hT1 hT2 hT3 hsame1 hhas1 hhas3 hless hsame2 hset0 hc1 hc2 hc3 M_t1 M_t2 M_t3 i2 i14 i15 i16 hsz
  have h8 := hn13_h8 t1 t2 t3 c4 A4 l1 l2 l3 w0 a0 hl1 hl2 hl3 hT1 hT2 hT3 hsame1 hhas1 hhas3 hless hsame2 hset0 hc1 hc2 hc3 M_t1 M_t2 M_t3 i2 i14 i15 i16 hsz
  have h9 := hn13_h9 t1 t2 t3 c4 A4 l1 l2 l3 w0 a0 hl1 hl2 hl3 hT1 hT2 hT3 hsame1 hhas1 hhas3 hless hsame2 hset0 hc1 hc2 hc3 M_t1 M_t2 M_t3 i2 i14 i15 i16 hsz
  have h10 := hn13_h10 t1 t2 t3 c4 A4 l1 l2 l3 w0 a0 hl1 hl2 hl3 hT1 hT2 hT3 hsame1 hhas1 hhas3 hless hsame2 hset0 hc1 hc2 hc3 M_t1 M_t2 M_t3 i2 i14 i15 i16 hsz
  have h11 := hn13_h11 t1 t2 t3 c4 A4 l1 l2 l3 w0 a0 hl1 hl2 hl3 hT1 hT2 hT3 hsame1 hhas1 hhas3 hless hsame2 hset0 hc1 hc2 hc3 M_t1 M_t2 M_t3 i2 i14 i15 i16 hsz
  have h12 := hn13_h12 t1 t2 t3 c4 A4 l1 l2 l3 w0 a0 hl1 hl2 hl3 hT1 hT2 hT3 hsame1 hhas1 hhas3 hless hsame2 hset0 hc1 hc2 hc3 M_t1 M_t2 M_t3 i2 i14 i15 i16 hsz
  have h13 := hn13_h13 t1 t2 t3 c4 A4 l1 l2 l3 w0 a0 hl1 hl2 hl3 hT1 hT2 hT3 hsame1 hhas1 hhas3 hless hsame2 hset0 hc1 hc2 hc3 M_t1 M_t2 M_t3 i2 i14 i15 i16 hsz
  have h14 := hn13_h14 t1 t2 t3 c4 A4 l1 l2 l3 w0 a0 hl1 hl2 hl3 hT1 hT2 hT3 hsame1 hhas1 hhas3 hless hsame2 hset0 hc1 hc2 hc3 M_t1 M_t2 M_t3 i2 i14 i15 i16 hsz
  have h15 := hn13_h15 t1 t2 t3 c4 A4 l1 l2 l3 w0 a0 hl1 hl2 hl3 hT1 hT2 hT3 hsame1 hhas1 hhas3 hless hsame2 hset0 hc1 hc2 hc3 M_t1 M_t2 M_t3 i2 i14 i15 i16 hsz
  have h16 := hn13_h16 t1 t2 t3 c4 A4 l1 l2 l3 w0 a0 hl1 hl2 hl3 hT1 hT2 hT3 hsame1 hhas1 hhas3 hless hsame2 hset0 hc1 hc2 hc3 M_t1 M_t2 M_t3 i2 i14 i15 i16 hsz
  have h17 := hn13_h17 t1 t2 t3 c4 A4 l1 l2 l3 w0 a0 hl1 hl2 hl3 hT1 hT2 hT3 hsame1 hhas1 hhas3 hless hsame2 hset0 hc1 hc2 hc3 M_t1 M_t2 M_t3 i2 i14 i15 i16 hsz
  have h18 := hn13_h18 t1 t2 t3 c4 A4 l1 l2 l3 w0 a0 hl1 hl2 hl3 hT1 hT2 hT3 hsame1 hhas1 hhas3 hless hsame2 hset0 hc1 hc2 hc3 M_t1 M_t2 M_t3 i2 i14 i15 i16 hsz
  have h19 := hn13_h19 t1 t2 t3 c4 A4 l1 l2 l3 w0 a0 hl1 hl2 hl3 hT1 hT2 hT3 hsame1 hhas1 hhas3 hless hsame2 hset0 hc1 hc2 hc3 M_t1 M_t2 M_t3 i2 i14 i15 i16 hsz
  have h20 := hn13_h20 t1 t2 t3 c4 A4 l1 l2 l3 w0 a0 hl1 hl2 hl3 hT1 hT2 hT3 hsame1 hhas1 hhas3 hless hsame2 hset0 hc1 hc2 hc3 M_t1 M_t2 M_t3 i2 i14 i15 i16 hsz
  have h21 := hn13_h21 t1 t2 t3 c4 A4 l1 l2 l3 w0 a0 hl1 hl2 hl3 hT1 hT2 hT3 hsame1 hhas1 hhas3 hless hsame2 hset0 hc1 hc2 hc3 M_t1 M_t2 M_t3 i2 i14 i15 i16 hsz
  have h22 := hn13_h22 t1 t2 t3 c4 A4 l1 l2 l3 w0 a0 hl1 hl2 hl3 hT1 hT2 hT3 hsame1 hhas1 hhas3 hless hsame2 hset0 hc1 hc2 hc3 M_t1 M_t2 M_t3 i2 i14 i15 i16 hsz
  have h23 := hn13_h23 t1 t2 t3 c4 A4 l1 l2 l3 w0 a0 hl1 hl2 hl3 hT1 hT2 hT3 hsame1 hhas1 hhas3 hless hsame2 hset0 hc1 hc2 hc3 M_t1 M_t2 M_t3 i2 i14 i15 i16 hsz
  have h24 := hn13_h24 t1 t2 t3 c4 A4 l1 l2 l3 w0 a0 hl1 hl2 hl3 hT1 hT2 hT3 hsame1 hhas1 hhas3 hless hsame2 hset0 hc1 hc2 hc3 M_t1 M_t2 M_t3 i2 i14 i15 i16 hsz
  have h25 := hn13_h25 t1 t2 t3 c4 A4 l1 l2 l3 w0 a0 hl1 hl2 hl3 hT1 hT2 hT3 hsame1 hhas1 hhas3 hless hsame2 hset0 hc1 hc2 hc3 M_t1 M_t2 M_t3 i2 i14 i15 i16 hsz
  have h26 := hn13_h26 t1 t2 t3 c4 A4 l1 l2 l3 w0 a0 hl1 hl2 hl3 hT1 hT2 hT3 hsame1 hhas1 hhas3 hless hsame2 hset0 hc1 hc2 hc3 M_t1 M_t2 M_t3 i2 i14 i15 i16 hsz
  have h27 := hn13_h27 t1 t2 t3 c4 A4 l1 l2 l3 w0 a0 hl1 hl2 hl3 hT1 hT2 hT3 hsame1 hhas1 hhas3 hless hsame2 hset0 hc1 hc2 hc3 M_t1 M_t2 M_t3 i2 i14 i15 i16 hsz
  have h28 := hn13_h28 t1 t2 t3 c4 A4 l1 l2 l3 w0 a0 hl1 hl2 hl3 hT1 hT2 hT3 hsame1 hhas1 hhas3 hless hsame2 hset0 hc1 hc2 hc3 M_t1 M_t2 M_t3 i2 i14 i15 i16 hsz
  have h29 := hn13_h29 t1 t2 t3 c4 A4 l1 l2 l3 w0 a0 hl1 hl2 hl3 hT1 hT2 hT3 hsame1 hhas1 hhas3 hless hsame2 hset0 hc1 hc2 hc3 M_t1 M_t2 M_t3 i2 i14 i15 i16 hsz
  have h30 := hn13_h30 t1 t2 t3 c4 A4 l1 l2 l3 w0 a0 hl1 hl2 hl3 hT1 hT2 hT3 hsame1 hhas1 hhas3 hless hsame2 hset0 hc1 hc2 hc3 M_t1 M_t2 M_t3 i2 i14 i15 i16 hsz
  have h31 := hn13_h31 t1 t2 t3 c4 A4 l1 l2 l3 w0 a0 hl1 hl2 hl3 hT1 hT2 hT3 hsame1 hhas1 hhas3 hless hsame2 hset0 hc1 hc2 hc3 M_t1 M_t2 M_t3 i2 i14 i15 i16 hsz
  have h32 := hn13_h32 t1 t2 t3 c4 A4 l1 l2 l3 w0 a0 hl1 hl2 hl3 hT1 hT2 hT3 hsame1 hhas1 hhas3 hless hsame2 hset0 hc1 hc2 hc3 M_t1 M_t2 M_t3 i2 i14 i15 i16 hsz
  have h33 := hn13_h33 t1 t2 t3 c4 A4 l1 l2 l3 w0 a0 hl1 hl2 hl3 hT1 hT2 hT3 hsame1 hhas1 hhas3 hless hsame2 hset0 hc1 hc2 hc3 M_t1 M_t2 M_t3 i2 i14 i15 i16 hsz
  have h34 := hn13_h34 t1 t2 t3 c4 A4 l1 l2 l3 w0 a0 hl1 hl2 hl3 hT1 hT2 hT3 hsame1 hhas1 hhas3 hless hsame2 hset0 hc1 hc2 hc3 M_t1 M_t2 M_t3 i2 i14 i15 i16 hsz
  have h35 := hn13_h35 t1 t2 t3 c4 A4 l1 l2 l3 w0 a0 hl1 hl2 hl3 hT1 hT2 hT3 hsame1 hhas1 hhas3 hless hsame2 hset0 hc1 hc2 hc3 M_t1 M_t2 M_t3 i2 i14 i15 i16 hsz
  have h36 := hn13_h36 t1 t2 t3 c4 A4 l1 l2 l3 w0 a0 hl1 hl2 hl3 hT1 hT2 hT3 hsame1 hhas1 hhas3 hless hsame2 hset0 hc1 hc2 hc3 M_t1 M_t2 M_t3 i2 i14 i15 i16 hsz
  have h37 := hn13_h37 t1 t2 t3 c4 A4 l1 l2 l3 w0 a0 hl1 hl2 hl3 hT1 hT2 hT3 hsame1 hhas1 hhas3 hless hsame2 hset0 hc1 hc2 hc3 M_t1 M_t2 M_t3 i2 i14 i15 i16 hsz
  have h38 := hn13_h38 t1 t2 t3 c4 A4 l1 l2 l3 w0 a0 hl1 hl2 hl3 hT1 hT2 hT3 hsame1 hhas1 hhas3 hless hsame2 hset0 hc1 hc2 hc3 M_t1 M_t2 M_t3 i2 i14 i15 i16 hsz
  have h39 := hn13_h39 t1 t2 t3 c4 A4 l1 l2 l3 w0 a0 hl1 hl2 hl3 hT1 hT2 hT3 hsame1 hhas1 hhas3 hless hsame2 hset0 hc1 hc2 hc3 M_t1 M_t2 M_t3 i2 i14 i15 i16 hsz
  have h40 := hn13_h40 t1 t2 t3 c4 A4 l1 l2 l3 w0 a0 hl1 hl2 hl3 hT1 hT2 hT3 hsame1 hhas1 hhas3 hless hsame2 hset0 hc1 hc2 hc3 M_t1 M_t2 M_t3 i2 i14 i15 i16 hsz
  have h41 := hn13_h41 t1 t2 t3 c4 A4 l1 l2 l3 w0 a0 hl1 hl2 hl3 hT1 hT2 hT3 hsame1 hhas1 hhas3 hless hsame2 hset0 hc1 hc2 hc3 M_t1 M_t2 M_t3 i2 i14 i15 i16 hsz
  have h42 := hn13_h42 t1 t2 t3 c4 A4 l1 l2 l3 w0 a0 hl1 hl2 hl3 hT1 hT2 hT3 hsame1 hhas1 hhas3 hless hsame2 hset0 hc1 hc2 hc3 M_t1 M_t2 M_t3 i2 i14 i15 i16 hsz
  have h43 := hn13_h43 t1 t2 t3 c4 A4 l1 l2 l3 w0 a0 hl1 hl2 hl3 hT1 hT2 hT3 hsame1 hhas1 hhas3 hless hsame2 hset0 hc1 hc2 hc3 M_t1 M_t2 M_t3 i2 i14 i15 i16 hsz
  have h44 := hn13_h44 t1 t2 t3 c4 A4 l1 l2 l3 w0 a0 hl1 hl2 hl3 hT1 hT2 hT3 hsame1 hhas1 hhas3 hless hsame2 hset0 hc1 hc2 hc3 M_t1 M_t2 M_t3 i2 i14 i15 i16 hsz
  have h45 := hn13_h45 t1 t2 t3 c4 A4 l1 l2 l3 w0 a0 hl1 hl2 hl3 hT1 hT2 hT3 hsame1 hhas1 hhas3 hless hsame2 hset0 hc1 hc2 hc3 M_t1 M_t2 M_t3 i2 i14 i15 i16 hsz
  have h46 := hn13_h46 t1 t2 t3 c4 A4 l1 l2 l3 w0 a0 hl1 hl2 hl3 hT1 hT2 hT3 hsame1 hhas1 hhas3 hless hsame2 hset0 hc1 hc2 hc3 M_t1 M_t2 M_t3 i2 i14 i15 i16 hsz
  have h47 := hn13_h47 t1 t2 t3 c4 A4 l1 l2 l3 w0 a0 hl1 hl2 hl3 hT1 hT2 hT3 hsame1 hhas1 hhas3 hless hsame2 hset0 hc1 hc2 hc3 M_t1 M_t2 M_t3 i2 i14 i15 i16 hsz
  have h48 := hn13_h48 t1 t2 t3 c4 A4 l1 l2 l3 w0 a0 hl1 hl2 hl3 hT1 hT2 hT3 hsame1 hhas1 hhas3 hless hsame2 hset0 hc1 hc2 hc3 M_t1 M_t2 M_t3 i2 i14 i15 i16 hsz
  refine Reg.region_all (by kernel_rfl) (hn13R t1 t2 t3 c4 A4 l1 l2 l3) (by rw [hn, hsz]; kernel_rfl) (hn13_stable t1 t2 t3 c4 A4 l1 l2 l3) (fun i hi => ?_) (fun v w hb hR => ?_)
  · rw [hn] at hi
    match i, List.mem_range.1 hi with
    | 0, _ => exact h0
    | 1, _ => exact h1
    | 2, _ => exact h2
    | 3, _ => exact h3
    | 4, _ => exact h4
    | 5, _ => exact h5
    | 6, _ => exact h6
    | 7, _ => exact h7
    | 8, _ => exact h8
    | 9, _ => exact h9
    | 10, _ => exact h10
    | 11, _ => exact h11
    | 12, _ => exact h12
    | 13, _ => exact h13
    | 14, _ => exact h14
    | 15, _ => exact h15
    | 16, _ => exact h16
    | 17, _ => exact h17
    | 18, _ => exact h18
    | 19, _ => exact h19
    | 20, _ => exact h20
    | 21, _ => exact h21
    | 22, _ => exact h22
    | 23, _ => exact h23
    | 24, _ => exact h24
    | 25, _ => exact h25
    | 26, _ => exact h26
    | 27, _ => exact h27
    | 28, _ => exact h28
    | 29, _ => exact h29
    | 30, _ => exact h30
    | 31, _ => exact h31
    | 32, _ => exact h32
    | 33, _ => exact h33
    | 34, _ => exact h34
    | 35, _ => exact h35
    | 36, _ => exact h36
    | 37, _ => exact h37
    | 38, _ => exact h38
    | 39, _ => exact h39
    | 40, _ => exact h40
    | 41, _ => exact h41
    | 42, _ => exact h42
    | 43, _ => exact h43
    | 44, _ => exact h44
    | 45, _ => exact h45
    | 46, _ => exact h46
    | 47, _ => exact h47
    | 48, _ => exact h48
    | (_ + 49), h => omega
  · rw [hn] at hR ⊢
    have v0 : v 0 = (Value.slice A4 2 c4) := hR 0 (by decide)
    have v1 : v 1 = (Value.agg (idC l2)) := hR 1 (by decide)
    have v2 : v 2 = (Value.agg (idC l1)) := hR 2 (by decide)
    have v4 : v 4 = (Value.bool true) := hR 4 (by decide)
    have v5 : v 5 = (Value.bool true) := hR 5 (by decide)
    have v6 : v 6 = (Value.slice A4 2 c4) := hR 6 (by decide)
    have v7 : v 7 = (Value.agg (idC l1)) := hR 7 (by decide)
    have v8 : v 8 = (Value.bool true) := hR 8 (by decide)
    have v9 : v 9 = (Value.bool true) := hR 9 (by decide)
    have v10 : v 10 = (Value.bool true) := hR 10 (by decide)
    have v11 : v 11 = (Value.slice A4 2 c4) := hR 11 (by decide)
    have v12 : v 12 = (Value.agg (idC l3)) := hR 12 (by decide)
    have v13 : v 13 = (Value.bool false) := hR 13 (by decide)
    have v14 : v 14 = (Value.bool true) := hR 14 (by decide)
    have v15 : v 15 = (Value.bool true) := hR 15 (by decide)
    have v16 : v 16 = (Value.bool true) := hR 16 (by decide)
    have v17 : v 17 = (Value.slice A4 2 c4) := hR 17 (by decide)
    have v18 : v 18 = (Value.agg (idC l1)) := hR 18 (by decide)
    have v21 : v 21 = (Value.agg (idC l2)) := hR 21 (by decide)
    have v23 : v 23 = (Value.bool true) := hR 23 (by decide)
    have v24 : v 24 = (Value.bool true) := hR 24 (by decide)
    have v25 : v 25 = (Value.bool true) := hR 25 (by decide)
    have v27 : v 27 = (Value.int IntKind.i64 0) := hR 27 (by decide)
    have v28 : v 28 = (Value.bool true) := hR 28 (by decide)
    have v29 : v 29 = (Value.bool true) := hR 29 (by decide)
    have v30 : v 30 = (Value.bool true) := hR 30 (by decide)
    have v31 : v 31 = (Value.agg (idC l1)) := hR 31 (by decide)
    have v32 : v 32 = (Value.agg (idC l2)) := hR 32 (by decide)
    have v33 : v 33 = (Value.int IntKind.i64 1) := hR 33 (by decide)
    have v34 : v 34 = (Value.bool true) := hR 34 (by decide)
    have v35 : v 35 = (Value.bool true) := hR 35 (by decide)
    have v36 : v 36 = (Value.bool true) := hR 36 (by decide)
    have v37 : v 37 = (Value.agg (idC l2)) := hR 37 (by decide)
    have v38 : v 38 = (Value.agg (idC l1)) := hR 38 (by decide)
    have v39 : v 39 = (Value.int IntKind.i64 (-1)) := hR 39 (by decide)
    have v40 : v 40 = (Value.bool true) := hR 40 (by decide)
    have v41 : v 41 = (Value.bool true) := hR 41 (by decide)
    have v42 : v 42 = (Value.bool true) := hR 42 (by decide)
    have v43 : v 43 = (Value.agg (idC l1)) := hR 43 (by decide)
    have v44 : v 44 = (Value.agg (idC l1)) := hR 44 (by decide)
    have v45 : v 45 = (Value.int IntKind.i64 0) := hR 45 (by decide)
    have v46 : v 46 = (Value.bool true) := hR 46 (by decide)
    have v47 : v 47 = (Value.bool true) := hR 47 (by decide)
    have v48 : v 48 = (Value.bool true) := hR 48 (by decide)
    rw [hfin v, v0, v1, v2, v4, v5, v6, v7, v8, v9, v10, v11, v12, v13, v14, v15, v16, v17, v18, v21, v23, v24, v25, v27, v28, v29, v30, v31, v32, v33, v34, v35, v36, v37, v38, v39, v40, v41, v42, v43, v44, v45, v46, v47, v48]
    exact hend w (v 3) (v 19) (v 20) (v 22) (v 26) hb 
end Go.Proofs.YtcdnbidenaljlaaDoor

