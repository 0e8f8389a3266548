/- Regions that draw their order, and hold allocations beside calls: one obligation an operation, whatever the order. What an operation leaves is told by a relation between its value and the world that lives on while memory grows. No program in sight. -/
import Derived.Test.YtcdnbidenaljlaaB
import Derived.Orders
namespace Go.Proofs.Ytcdnbidenaljlaa
open Go.RowKit

namespace Reg
def dst (ops : Array Oper) (i : Nat) : Option Tmp := (ops[i]?).bind (·.dst)
def dp (ops : Array Oper) (i : Nat) : List Nat := match ops[i]? with
  | none => []
  | some o => (o.after.toList.filter fun e => Region.binds .any e).map (·.on)
def maskOf (T : List Nat) (ds : List Nat) (m : Nat) : Nat := ds.foldl (fun m d => m ||| 2 ^ d ||| T.getD d 0) m
def anc (ops : Array Oper) : Nat → List Nat
  | 0 => []
  | k + 1 => anc ops k ++ [maskOf (anc ops k) (dp ops k) 0]
theorem mask_bit (T : List Nat) (ds : List Nat) (m u : Nat) (h : (maskOf T ds m).testBit u = true) : m.testBit u = true ∨ ∃ d ∈ ds, u = d ∨ (T.getD d 0).testBit u = true := by
  induction ds generalizing m with
  | nil => exact .inl h
  | cons d ds ih =>
    rcases ih _ h with h1 | ⟨x, hx, h1⟩
    · rw [Nat.testBit_or, Nat.testBit_or, Bool.or_eq_true, Bool.or_eq_true] at h1
      rcases h1 with (h1 | h1) | h1
      · exact .inl h1
      · rw [Nat.testBit_two_pow] at h1
        exact .inr ⟨d, List.mem_cons_self .., .inl (by simpa using h1 : d = u).symm⟩
      · exact .inr ⟨d, List.mem_cons_self .., .inr h1⟩
    · exact .inr ⟨x, List.mem_cons_of_mem _ hx, h1⟩
theorem anc_length (ops : Array Oper) (k : Nat) : (anc ops k).length = k := by
  induction k with
  | zero => rfl
  | succ k ih => simp [anc, ih]
theorem anc_spec {ops : Array Oper} {L : Nat → Prop} (hd : ∀ i, L i → ∀ j ∈ dp ops i, L j) : ∀ (k i u : Nat), i < k → L i → ((anc ops k).getD i 0).testBit u = true → L u := by
  intro k
  induction k with
  | zero => intro i u h; omega
  | succ k ih =>
    intro i u h hi hb
    rcases Nat.lt_or_ge i k with hlt | hge
    · rw [anc, List.getD_eq_getElem?_getD, List.getElem?_append_left (by rw [anc_length]; exact hlt), ← List.getD_eq_getElem?_getD] at hb
      exact ih i u hlt hi hb
    · obtain rfl : i = k := by omega
      rw [anc, List.getD_eq_getElem?_getD, List.getElem?_append_right (by rw [anc_length]; exact Nat.le_refl _), anc_length, Nat.sub_self] at hb
      rcases mask_bit _ _ _ _ hb with h0 | ⟨d, hdm, h1⟩
      · simp at h0
      · have hL := hd i hi d hdm
        rcases h1 with rfl | h1
        · exact hL
        · rcases Nat.lt_or_ge d i with hdi | hdi
          · exact ih d u hdi hL h1
          · rw [List.getD_eq_getElem?_getD, List.getElem?_eq_none (by rw [anc_length]; exact hdi)] at h1
            simp at h1
def notSel (o : Oper) : Bool := match o.op with
  | .select _ _ => false
  | _ => true
def dstOk (n : Nat) (o : Oper) : Bool := match o.dst with
  | some d => decide (d < n)
  | none => false
/-- What the text of the region has to be like: each of U leaves a value in a slot of its own, waits for what it reads, and for none but U; the others wait for all of U. -/
def chk (ops : Array Oper) (n : Nat) (U : List Nat) : Bool :=
  (U.all fun i => match ops[i]? with
    | none => false
    | some o => dstOk n o && notSel o && (dp ops i).all (fun j => U.contains j && decide (j < i)) &&
        (o.looksAt ops).all fun t => U.all fun j => !(dst ops j == some t) || (dp ops i).contains j || ((anc ops ops.size).getD j 0).testBit i) &&
  (U.all fun i => U.all fun j => i == j || !(dst ops i == dst ops j)) &&
  (List.range ops.size).all fun k => U.contains k || U.all fun u => ((anc ops ops.size).getD k 0).testBit u
/-- The frame with the values of some. -/
def gfr (ops : Array Oper) (a0 : Act) (v : Nat → Value) : List Nat → Act
  | [] => a0
  | j :: r => (gfr ops a0 v r).put (dst ops j) (v j)
def val (ops : Array Oper) (a : Act) (i : Nat) : Value := match dst ops i with
  | some d => a.tmps.getD d undef
  | none => undef
section
variable {ops : Array Oper} {a0 : Act} {v : Nat → Value}
theorem put_size (a : Act) (d : Option Tmp) (u : Value) : (a.put d u).tmps.size = a.tmps.size := by cases d <;> simp [Act.put]
theorem put_defers (a : Act) (d : Option Tmp) (u : Value) : (a.put d u).defers = a.defers := by cases d <;> rfl
theorem put_other (a : Act) (d : Option Tmp) (u : Value) (t : Nat) (h : d ≠ some t) : (a.put d u).tmps[t]? = a.tmps[t]? := by
  cases d with
  | none => rfl
  | some x => simp only [Act.put]; rw [Array.getElem?_setIfInBounds_ne (fun e => h (by rw [e]))]
theorem put_same (a : Act) (t : Nat) (u : Value) (h : t < a.tmps.size) : (a.put (some t) u).tmps[t]? = some u := by simp [Act.put, h]
theorem gfr_size (L : List Nat) : (gfr ops a0 v L).tmps.size = a0.tmps.size := by
  induction L with
  | nil => rfl
  | cons j L ih => rw [gfr, put_size, ih]
theorem gfr_defers (L : List Nat) : (gfr ops a0 v L).defers = a0.defers := by
  induction L with
  | nil => rfl
  | cons j L ih => rw [gfr, put_defers, ih]
theorem gfr_out (L : List Nat) (t : Nat) (h : ∀ j ∈ L, dst ops j ≠ some t) : (gfr ops a0 v L).tmps[t]? = a0.tmps[t]? := by
  induction L with
  | nil => rfl
  | cons j L ih => rw [gfr, put_other _ _ _ _ (h j (List.mem_cons_self ..)), ih fun x hx => h x (List.mem_cons_of_mem _ hx)]
theorem gfr_in (L : List Nat) (j t : Nat) (hn : ∀ x ∈ L, dst ops x = some t → x = j) (hj : j ∈ L) (hd : dst ops j = some t) (ht : t < a0.tmps.size) : (gfr ops a0 v L).tmps[t]? = some (v j) := by
  induction L with
  | nil => cases hj
  | cons x L ih =>
    rw [gfr]
    by_cases hx : dst ops x = some t
    · obtain rfl := hn x (List.mem_cons_self ..) hx
      rw [hx, put_same _ _ _ (by rw [gfr_size]; exact ht)]
    · rw [put_other _ _ _ _ hx]
      rcases List.mem_cons.1 hj with rfl | hj
      · exact absurd hd hx
      · exact ih (fun y hy => hn y (List.mem_cons_of_mem _ hy)) hj
theorem act_ext {a b : Act} (h1 : a.defers = b.defers) (h2 : ∀ t : Nat, a.tmps[t]? = b.tmps[t]?) : a = b := by
  cases a
  cases b
  simp only at h1 h2
  subst h1
  congr 1
  exact Array.ext_getElem? h2
end
/-- What is asked of operation number i. -/
def OpOK (P : Program) (ops : Array Oper) (a0 : Act) (w0 : World) (R : Nat → Value → World → Prop) (D : Nat → Nat → Value → Value → Prop) (i : Nat) : Prop :=
  ∀ (v : Nat → Value) (w : World), Below w0.heap.size w0 w → (∀ j ∈ dp ops i, R j (v j) w) → ∀ o, ops[i]? = some o →
    ∀ K : Act → World → Prop, (∀ u w', Below w.heap.size w w' → R i u w' → (∀ j x, j ≠ i → R j x w → D i j u x ∧ D j i x u) → K ((gfr ops a0 v (dp ops i)).put o.dst u) w') →
      if Region.wanted o (yielded ops (gfr ops a0 v (dp ops i)).tmps) = true then o.wp P (gfr ops a0 v (dp ops i)) w K (fun _ _ _ => False) else K ((gfr ops a0 v (dp ops i)).put o.dst undef) w
structure J (ops : Array Oper) (U : List Nat) (a0 : Act) (w0 : World) (R : Nat → Value → World → Prop) (D : Nat → Nat → Value → Value → Prop) (listed : Array Bool) (a : Act) (w : World) : Prop where
  sz : listed.size = ops.size
  down : ∀ i, listed.getD i false = true → ∀ j ∈ dp ops i, listed.getD j false = true
  inU : ∀ i, listed.getD i false = true → i ∈ U
  dfr : a.defers = a0.defers
  len : a.tmps.size = a0.tmps.size
  old : ∀ t, (∀ i ∈ U, listed.getD i false = true → dst ops i ≠ some t) → a.tmps[t]? = a0.tmps[t]?
  rel : ∀ i ∈ U, listed.getD i false = true → R i (val ops a i) w
  dis : ∀ i ∈ U, ∀ j ∈ U, i ≠ j → listed.getD i false = true → listed.getD j false = true → D i j (val ops a i) (val ops a j)
  s : Below w0.heap.size w0 w

section
variable {P : Program} {ops : Array Oper} {Q : Exit → Act → World → Prop} {U : List Nat} {a0 : Act} {w0 : World} {R : Nat → Value → World → Prop} {D : Nat → Nat → Value → Value → Prop}

/-- An operation carried out in a frame that looks the same to it. -/
theorem wp_transfer {o : Oper} {a G : Act} {w : World} {post : Value → World → Prop} {K : Act → World → Prop} (he : execOp a.eval o = execOp G.eval o) {d : Nat} (hd : o.dst = some d) (hlt : d < G.tmps.size) (hdf : G.defers = a0.defers)
    (h : ∀ K' : Act → World → Prop, (∀ u w', post u w' → K' (G.put o.dst u) w') → o.wp P G w K' (fun _ _ _ => False)) (hK : ∀ u w', post u w' → K (a.put o.dst u) w') : o.wp P a w K Q := by
  have h1 := h (fun a' w' => a'.defers = a0.defers ∧ post (a'.tmps.getD d undef) w') (fun u w' hp => ⟨by rw [put_defers]; exact hdf, by
    rw [hd]
    have := put_same G d u hlt
    rw [Array.getD_eq_getD_getElem?, this]
    exact hp⟩)
  have key : ∀ u w', (G.put o.dst u).defers = a0.defers ∧ post ((G.put o.dst u).tmps.getD d undef) w' → post u w' := fun u w' hp => by
    have h2 := hp.2
    rw [hd, Array.getD_eq_getD_getElem?, put_same G d u hlt] at h2
    exact h2
  unfold Oper.wp at *
  rw [he]
  generalize (execOp G.eval o).run P w = r at *
  cases r with
  | ok n w' =>
    cases n <;> simp only [Oper.upon] at h1 ⊢
    case value u => exact hK u w' (key u w' h1)
    case skip => exact hK _ w' (key _ w' h1)
    case defer d' =>
      have := h1.1
      rw [put_defers] at this
      simp only [hdf] at this
      exact absurd this (by simp)
    case enter f args =>
      refine Calls.mono h1 fun e w'' hh => ?_
      cases e with
      | returned u => exact hK u w'' (key u w'' hh)
      | panicked c => exact hh.elim
      | outgrown => obtain ⟨_, _, hh⟩ := hh; exact hh.elim
    case row row args => exact Rows.mono h1 fun u w'' hh => hK u w'' (key u w'' hh)
    all_goals exact h1
  | halt x w' => cases x <;> simp only [Oper.upon] at h1 ⊢

theorem chk_spec {n : Nat} (h : chk ops n U = true) :
    (∀ i ∈ U, ∃ o d, ops[i]? = some o ∧ o.dst = some d ∧ d < n ∧ notSel o = true ∧ (∀ j ∈ dp ops i, j ∈ U ∧ j < i) ∧ ∀ t ∈ o.looksAt ops, ∀ j ∈ U, dst ops j = some t → j ∈ dp ops i ∨ ((anc ops ops.size).getD j 0).testBit i = true) ∧
    (∀ i ∈ U, ∀ j ∈ U, i ≠ j → dst ops i ≠ dst ops j) ∧
    (∀ k, k < ops.size → k ∉ U → ∀ u ∈ U, ((anc ops ops.size).getD k 0).testBit u = true) := by
  unfold chk at h
  rw [Bool.and_eq_true, Bool.and_eq_true, List.all_eq_true, List.all_eq_true, List.all_eq_true] at h
  obtain ⟨⟨h1, h2⟩, h3⟩ := h
  refine ⟨fun i hi => ?_, fun i hi j hj hne he => ?_, fun k hk hn u hu => ?_⟩
  · have := h1 i hi
    cases ho : ops[i]? with
    | none => rw [ho] at this; cases this
    | some o =>
      rw [ho] at this
      simp only [Bool.and_eq_true, List.all_eq_true] at this
      obtain ⟨⟨⟨g1, g2⟩, g3⟩, g4⟩ := this
      unfold dstOk at g1
      cases hd : o.dst with
      | none => rw [hd] at g1; cases g1
      | some d =>
        rw [hd] at g1
        refine ⟨o, d, rfl, hd, by simpa using g1, g2, fun j hj => by simpa using g3 j hj, fun t ht j hj hjt => ?_⟩
        have := g4 t ht j hj
        simp only [Bool.or_eq_true, Bool.not_eq_true', beq_eq_false_iff_ne, ne_eq] at this
        rcases this with (h | h) | h
        · exact absurd hjt h
        · exact .inl (by simpa using h)
        · exact .inr h
  · have := List.all_eq_true.1 (h2 i hi) j hj
    simp only [Bool.or_eq_true, beq_iff_eq, Bool.not_eq_true', beq_eq_false_iff_ne, ne_eq] at this
    exact this.elim hne (fun h => h he)
  · have := h3 k (List.mem_range.2 hk)
    simp only [Bool.or_eq_true, List.all_eq_true] at this
    rcases this with h | h
    · exact absurd (by simpa using h) hn
    · exact h u hu
theorem dp_of {i : Nat} {o : Oper} (ho : ops[i]? = some o) (j : Nat) : j ∈ dp ops i ↔ ∃ e ∈ o.after, Region.binds .any e = true ∧ e.on = j := by
  unfold dp
  rw [ho]
  simp [and_assoc]
theorem val_of {a : Act} {i t : Nat} (h : dst ops i = some t) : val ops a i = (a.tmps[t]?).getD undef := by
  unfold val
  rw [h]
  simp only [Array.getD_eq_getD_getElem?]
theorem dst_of {i : Nat} {o : Oper} (ho : ops[i]? = some o) : dst ops i = o.dst := by unfold dst; rw [ho]; rfl
/-- One step: whichever of U comes up. -/
theorem J.step {listed : Array Bool} {a : Act} {w : World} (hc : chk ops a0.tmps.size U = true) (hst : ∀ i u w w', R i u w → Below w.heap.size w w' → R i u w') (hop : ∀ i ∈ U, OpOK P ops a0 w0 R D i)
    (h : J ops U a0 w0 R D listed a w) {i : Nat} (hr : i ∈ Region.ready .any ops listed) (hi : i ∈ U) : wpOp P ops Q i (fun a' w' => J ops U a0 w0 R D (listed.setIfInBounds i true) a' w') a w := by
  obtain ⟨c1, c2, c3⟩ := chk_spec hc
  obtain ⟨hun, o, ho, hall⟩ := mem_ready.1 hr
  obtain ⟨o', d, ho', hd, hlt, hsel, hdU', hlook⟩ := c1 i hi
  have hdU : ∀ j ∈ dp ops i, j ∈ U := fun j hj => (hdU' j hj).1
  rw [ho] at ho'
  cases ho'
  have hsz : i < listed.size := by
    rcases Nat.lt_or_ge i listed.size with h' | h'
    · exact h'
    · simp [Array.getElem?_eq_none h'] at hun
  have hunf : listed.getD i false = false := by
    simp [hsz] at hun ⊢
    exact hun
  have hdl : ∀ j ∈ dp ops i, listed.getD j false = true := fun j hj => by
    obtain ⟨e, he, hb, rfl⟩ := (dp_of ho j).1 hj
    exact hall e he hb
  have hsel' : ∀ cs b, o.op ≠ .select cs b := fun cs b e => by unfold notSel at hsel; rw [e] at hsel; cases hsel
  -- the slots that o looks at
  have hsame : ∀ t ∈ o.looksAt ops, a.tmps[t]? = (gfr ops a0 (val ops a) (dp ops i)).tmps[t]? := fun t ht => by
    by_cases hex : ∃ j ∈ U, dst ops j = some t
    · obtain ⟨j, hj, hjt⟩ := hex
      have huniq : ∀ x ∈ U, dst ops x = some t → x = j := fun x hx hxt => Classical.byContradiction fun hne => c2 x hx j hj hne (by rw [hxt, hjt])
      by_cases hjd : j ∈ dp ops i
      · obtain ⟨oj, dj, hoj, hdj, hltj, _⟩ := c1 j hj
        have hdj' : dst ops j = some dj := by rw [dst_of hoj, hdj]
        rw [hjt] at hdj'
        cases hdj'
        rw [gfr_in _ j t (fun x hx => huniq x (hdU x hx)) hjd hjt hltj]
        unfold val
        rw [hjt]
        have : t < a.tmps.size := by rw [h.len]; exact hltj
        simp [this]
      · have hb := (hlook t ht j hj hjt).resolve_left hjd
        have hjn : listed.getD j false = false := by
          cases hjl : listed.getD j false with
          | false => rfl
          | true =>
            have hjs : j < ops.size := by
              rcases Nat.lt_or_ge j ops.size with h' | h'
              · exact h'
              · obtain ⟨oj, _, hoj, _⟩ := c1 j hj
                rw [Array.getElem?_eq_none h'] at hoj
                cases hoj
            have := anc_spec (L := fun x => listed.getD x false = true) h.down ops.size j i hjs hjl hb
            rw [hunf] at this
            cases this
        rw [h.old t (fun x hx hxl hxt => by rw [huniq x hx hxt, hjn] at hxl; cases hxl), gfr_out _ t (fun x hx hxt => hjd (huniq x (hdU x hx) hxt ▸ hx))]
    · rw [h.old t (fun x hx _ hxt => hex ⟨x, hx, hxt⟩), gfr_out _ t (fun x hx hxt => hex ⟨x, hdU x hx, hxt⟩)]
  have hex : execOp a.eval o = execOp (gfr ops a0 (val ops a) (dp ops i)).eval o := execOp_congr o hsel' fun x hx => by
    cases x with
    | tmp t =>
      have := hsame t (List.mem_append_left _ (List.mem_filterMap.2 ⟨.tmp t, by simpa using hx, rfl⟩))
      simp only [Act.eval, Array.getD_eq_getD_getElem?, this]
    | _ => rfl
  have hwant : Region.wanted o (yielded ops a.tmps) = Region.wanted o (yielded ops (gfr ops a0 (val ops a) (dp ops i)).tmps) := by
    unfold Region.wanted
    cases hg : o.guard with
    | none => rfl
    | some gw =>
      obtain ⟨g, want⟩ := gw
      have hy : yielded ops a.tmps g = yielded ops (gfr ops a0 (val ops a) (dp ops i)).tmps g := by
        unfold yielded
        cases ht : (ops[g]?).bind (·.dst) with
        | none => rfl
        | some t =>
          have := hsame t (List.mem_append_right _ (by simp [hg, ht]))
          simp only [Option.bind_some, this]
      simp only [hy]
  have hdsti : dst ops i = some d := by rw [dst_of ho, hd]
  have hop' := hop i hi (val ops a) w h.s (fun j hj => h.rel j (hdU j hj) (hdl j hj)) o ho
  -- what comes behind
  have hend : ∀ u w', (Below w.heap.size w w' ∧ R i u w' ∧ ∀ j x, j ≠ i → R j x w → D i j u x ∧ D j i x u) → J ops U a0 w0 R D (listed.setIfInBounds i true) (a.put o.dst u) w' := fun u w' ⟨hb, hR, hD⟩ => by
    have hvi : val ops (a.put o.dst u) i = u := by
      rw [val_of hdsti, hd, put_same a d u (by rw [h.len]; exact hlt)]
      rfl
    have hvj : ∀ j ∈ U, j ≠ i → val ops (a.put o.dst u) j = val ops a j := fun j hj hne => by
      obtain ⟨oj, t, hoj, hdj0, _⟩ := c1 j hj
      have hdj : dst ops j = some t := by rw [dst_of hoj, hdj0]
      rw [val_of hdj, val_of hdj, put_other a o.dst u t (by rw [hd, ← hdsti, ← hdj]; exact c2 i hi j hj (Ne.symm hne))]
    have hset : ∀ j, (listed.setIfInBounds i true).getD j false = true ↔ j = i ∨ listed.getD j false = true := fun j => by
      by_cases hji : j = i
      · subst hji
        simp [hsz]
      · rw [getD_set_ne false (Ne.symm hji)]
        simp [hji]
    refine ⟨by rw [Array.size_setIfInBounds]; exact h.sz, fun j hj k hk => ?_, fun j hj => ?_, by rw [put_defers]; exact h.dfr, by rw [put_size]; exact h.len, fun t ht => ?_, fun j hj hjl => ?_, fun j hj k hk hne hjl hkl => ?_, below_then h.s hb (Nat.le_refl _)⟩
    · rcases (hset j).1 hj with rfl | hj
      · exact (hset k).2 (.inr (hdl k hk))
      · exact (hset k).2 (.inr (h.down j hj k hk))
    · rcases (hset j).1 hj with rfl | hj
      · exact hi
      · exact h.inU j hj
    · rw [put_other a o.dst u t (by rw [hd, ← hdsti]; exact ht i hi ((hset i).2 (.inl rfl))), h.old t fun j hj hjl => ht j hj ((hset j).2 (.inr hjl))]
    · by_cases hji : j = i
      · subst hji
        rw [hvi]
        exact hR
      · rw [hvj j hj hji]
        exact hst j _ w w' (h.rel j hj (((hset j).1 hjl).resolve_left hji)) hb
    · by_cases hji : j = i
      · subst hji
        rw [hvi, hvj k hk (Ne.symm hne)]
        exact (hD k _ (Ne.symm hne) (h.rel k hk (((hset k).1 hkl).resolve_left (Ne.symm hne)))).1
      · by_cases hki : k = i
        · subst hki
          rw [hvi, hvj j hj hji]
          exact (hD j _ hji (h.rel j hj (((hset j).1 hjl).resolve_left hji))).2
        · rw [hvj j hj hji, hvj k hk hki]
          exact h.dis j hj k hk hne (((hset j).1 hjl).resolve_left hji) (((hset k).1 hkl).resolve_left hki)
  unfold wpOp
  rw [ho]
  simp only
  rw [hwant]
  by_cases hw : Region.wanted o (yielded ops (gfr ops a0 (val ops a) (dp ops i)).tmps) = true
  · rw [if_pos hw]
    refine .inl (wp_transfer (a0 := a0) (post := fun u w' => Below w.heap.size w w' ∧ R i u w' ∧ ∀ j x, j ≠ i → R j x w → D i j u x ∧ D j i x u) hex hd (by rw [gfr_size]; exact hlt) (gfr_defers _) (fun K' hK' => ?_) hend)
    have := hop' K' (fun u w' h1 h2 h3 => hK' u w' ⟨h1, h2, h3⟩)
    rwa [if_pos hw] at this
  · rw [if_neg hw]
    -- not wanted: the slot is told nothing of; so it must be told to be so
    have h0 := hop' (fun a' w' => (Below w.heap.size w w' ∧ R i (a'.tmps.getD d undef) w' ∧ ∀ j x, j ≠ i → R j x w → D i j (a'.tmps.getD d undef) x ∧ D j i x (a'.tmps.getD d undef))) (fun u w' h1 h2 h3 => by
      have : ((gfr ops a0 (val ops a) (dp ops i)).put o.dst u).tmps.getD d undef = u := by
        rw [hd, Array.getD_eq_getD_getElem?, put_same _ d u (by rw [gfr_size]; exact hlt)]
        rfl
      rw [this]
      exact ⟨h1, h2, h3⟩)
    rw [if_neg hw] at h0
    have : ((gfr ops a0 (val ops a) (dp ops i)).put o.dst undef).tmps.getD d undef = undef := by
      rw [hd, Array.getD_eq_getD_getElem?, put_same _ d undef (by rw [gfr_size]; exact hlt)]
      rfl
    rw [this] at h0
    exact hend undef w h0
def cnt (l : List Nat) (listed : Array Bool) : Nat := (l.filter fun i => !listed.getD i false).length
theorem cnt_set (l : List Nat) (listed : Array Bool) (i : Nat) : cnt l (listed.setIfInBounds i true) ≤ cnt l listed ∧ (i ∈ l → i < listed.size → listed.getD i false = false → cnt l (listed.setIfInBounds i true) < cnt l listed) := by
  induction l with
  | nil => exact ⟨Nat.le_refl _, fun h => by cases h⟩
  | cons x l ih =>
    unfold cnt at *
    by_cases hx : x = i
    · subst hx
      have h1 : x < listed.size → (listed.setIfInBounds x true).getD x false = true := fun h => by simp [h]
      by_cases hs : x < listed.size
      · rw [List.filter_cons_of_neg (by rw [h1 hs]; simp)]
        cases hl : listed.getD x false with
        | true =>
          rw [List.filter_cons_of_neg (by rw [hl]; simp)]
          exact ⟨ih.1, fun _ _ h => by cases h⟩
        | false =>
          rw [List.filter_cons_of_pos (by rw [hl]; rfl), List.length_cons]
          exact ⟨by omega, fun _ _ _ => by omega⟩
      · have : listed.setIfInBounds x true = listed := by simp [Array.setIfInBounds, hs]
        rw [this]
        exact ⟨Nat.le_refl _, fun _ h => absurd h hs⟩
    · have h1 : (listed.setIfInBounds i true).getD x false = listed.getD x false := getD_set_ne false (Ne.symm hx)
      cases hl : listed.getD x false with
      | true =>
        rw [List.filter_cons_of_neg (by rw [h1, hl]; simp), List.filter_cons_of_neg (by rw [hl]; simp)]
        exact ⟨ih.1, fun hm hs hf => ih.2 ((List.mem_cons.1 hm).resolve_left (Ne.symm hx)) hs hf⟩
      | false =>
        rw [List.filter_cons_of_pos (by rw [h1, hl]; rfl), List.filter_cons_of_pos (by rw [hl]; rfl), List.length_cons, List.length_cons]
        exact ⟨by omega, fun hm hs hf => by have := ih.2 ((List.mem_cons.1 hm).resolve_left (Ne.symm hx)) hs hf; omega⟩
/-- The array of what has come up once U is through. -/
def lst (ops : Array Oper) (U : List Nat) : Array Bool := (List.map (fun i => U.contains i) (List.range ops.size)).toArray
theorem J.ready_in {listed : Array Bool} {a : Act} {w : World} (h : J ops U a0 w0 R D listed a w) {i : Nat} (hi : i < ops.size) (hd : ∀ j ∈ dp ops i, listed.getD j false = true) (h0 : Region.ready .any ops listed = []) : listed.getD i false = true := by
  cases hl : listed.getD i false with
  | true => rfl
  | false =>
    exfalso
    have ho : ops[i]? = some ops[i] := Array.getElem?_eq_getElem hi
    have : i ∈ Region.ready .any ops listed := mem_ready.2 ⟨by
      have hs : i < listed.size := by rw [h.sz]; exact hi
      simp [hs] at hl ⊢
      exact hl, _, ho, fun e he hb => hd _ ((dp_of ho _).2 ⟨e, he, hb, rfl⟩)⟩
    rw [h0] at this
    cases this
theorem J.fin {listed : Array Bool} {a : Act} {w : World} (hc : chk ops a0.tmps.size U = true) (h : J ops U a0 w0 R D listed a w) (hall : ∀ u ∈ U, listed.getD u false = true)
    (hend : ∀ (v : Nat → Value) (w : World), Below w0.heap.size w0 w → (∀ i ∈ U, R i (v i) w) → (∀ i ∈ U, ∀ j ∈ U, i ≠ j → D i j (v i) (v j)) → ∀ fuel, cnt (List.range ops.size) (lst ops U) ≤ fuel → wpAny P .any ops Q fuel (lst ops U) (gfr ops a0 v U) w)
    {fuel : Nat} (hf : cnt (List.range ops.size) listed ≤ fuel) : wpAny P .any ops Q fuel listed a w := by
  obtain ⟨c1, c2, c3⟩ := chk_spec hc
  have hl : listed = lst ops U := by
    apply Array.ext (by rw [h.sz]; simp [lst])
    intro i h1 h2
    have h3 : (lst ops U)[i] = U.contains i := by simp [lst]
    rw [h3]
    cases hu : listed[i] with
    | true => exact (by have := h.inU i (by simp [h1, hu]); simp [this] : true = U.contains i)
    | false =>
      refine Eq.symm (Bool.eq_false_iff.2 fun hm => ?_)
      have := hall i (by simpa using hm)
      simp [h1, hu] at this
  have ha : a = gfr ops a0 (val ops a) U := act_ext (by rw [gfr_defers, h.dfr]) fun t => by
    by_cases hex : ∃ j ∈ U, dst ops j = some t
    · obtain ⟨j, hj, hjt⟩ := hex
      obtain ⟨oj, dj, hoj, hdj, hltj, _⟩ := c1 j hj
      have hdj' : dst ops j = some dj := by rw [dst_of hoj, hdj]
      rw [hjt] at hdj'
      cases hdj'
      rw [gfr_in _ j t (fun x hx hxt => Classical.byContradiction fun hne => c2 x hx j hj hne (by rw [hxt, hjt])) hj hjt hltj, val_of hjt]
      have : t < a.tmps.size := by rw [h.len]; exact hltj
      simp [this]
    · rw [h.old t (fun x hx _ hxt => hex ⟨x, hx, hxt⟩), gfr_out _ t (fun x hx hxt => hex ⟨x, hx, hxt⟩)]
  have hrel : ∀ i ∈ U, R i (val ops a i) w := fun i hi => h.rel i hi (hall i hi)
  have hdis : ∀ i ∈ U, ∀ j ∈ U, i ≠ j → D i j (val ops a i) (val ops a j) := fun i hi j hj hne => h.dis i hi j hj hne (hall i hi) (hall j hj)
  rw [hl] at hf ⊢
  generalize val ops a = v at *
  subst ha
  exact hend v w h.s hrel hdis fuel hf
theorem region_go (hc : chk ops a0.tmps.size U = true) (hst : ∀ i u w w', R i u w → Below w.heap.size w w' → R i u w') (hop : ∀ i ∈ U, OpOK P ops a0 w0 R D i)
    (hend : ∀ (v : Nat → Value) (w : World), Below w0.heap.size w0 w → (∀ i ∈ U, R i (v i) w) → (∀ i ∈ U, ∀ j ∈ U, i ≠ j → D i j (v i) (v j)) → ∀ fuel, cnt (List.range ops.size) (lst ops U) ≤ fuel → wpAny P .any ops Q fuel (lst ops U) (gfr ops a0 v U) w) :
    ∀ (fuel : Nat) (listed : Array Bool) (a : Act) (w : World), J ops U a0 w0 R D listed a w → cnt (List.range ops.size) listed ≤ fuel → wpAny P .any ops Q fuel listed a w := by
  obtain ⟨c1, c2, c3⟩ := chk_spec hc
  have hUs : ∀ u ∈ U, u < ops.size := fun u hu => by
    obtain ⟨o, _, ho, _⟩ := c1 u hu
    rcases Nat.lt_or_ge u ops.size with h' | h'
    · exact h'
    · rw [Array.getElem?_eq_none h'] at ho; cases ho
  intro fuel
  induction fuel with
  | zero =>
    intro listed a w h hf
    have hall : ∀ u ∈ U, listed.getD u false = true := fun u hu => by
      cases hl : listed.getD u false with
      | true => rfl
      | false =>
        exfalso
        have : u ∈ (List.range ops.size).filter fun i => !listed.getD i false := List.mem_filter.2 ⟨List.mem_range.2 (hUs u hu), by rw [hl]; rfl⟩
        have := List.length_pos_of_mem this
        unfold cnt at hf
        omega
    exact J.fin hc h hall hend hf
  | succ fuel ih =>
    intro listed a w h hf
    by_cases hall : ∀ u ∈ U, listed.getD u false = true
    · exact J.fin hc h hall hend hf
    have hex : ∃ u, u ∈ U ∧ listed.getD u false = false := by
      refine Classical.byContradiction fun hn => hall fun u hu => ?_
      cases hl : listed.getD u false with
      | true => rfl
      | false => exact absurd ⟨u, hu, hl⟩ hn
    refine ⟨fun h0 => ?_, fun i hi => ?_⟩
    · exfalso
      obtain ⟨u, hu, hul⟩ := hex
      have key : ∀ n u, u ≤ n → u ∈ U → listed.getD u false = true := by
        intro n
        induction n with
        | zero =>
          intro u hun hu
          obtain rfl : u = 0 := by omega
          refine J.ready_in h (hUs _ hu) (fun j hj => ?_) h0
          obtain ⟨_, _, _, _, _, _, hd, _⟩ := c1 0 hu
          exact absurd (hd j hj).2 (by omega)
        | succ n ihn =>
          intro u hun hu
          refine J.ready_in h (hUs _ hu) (fun j hj => ?_) h0
          obtain ⟨_, _, _, _, _, _, hd, _⟩ := c1 u hu
          exact ihn j (by have := (hd j hj).2; omega) (hd j hj).1
      rw [key u u (Nat.le_refl _) hu] at hul
      cases hul
    · have hiU : i ∈ U := by
        refine Classical.byContradiction fun hn => ?_
        obtain ⟨u, hu, hul⟩ := hex
        obtain ⟨hun, o, ho, hdep⟩ := mem_ready.1 hi
        have his : i < ops.size := (Array.getElem?_eq_some_iff.1 ho).1
        have := anc_spec (ops := ops) (L := fun x => listed.getD x false = true ∨ x = i) (fun x hx j hj => by
          rcases hx with hx | rfl
          · exact .inl (h.down x hx j hj)
          · obtain ⟨e, he, hb, rfl⟩ := (dp_of ho j).1 hj
            exact .inl (hdep e he hb)) ops.size i u his (.inr rfl) (c3 i his hn u hu)
        rcases this with h1 | rfl
        · rw [h1] at hul; cases hul
        · exact hn hu
      refine wpOp_mono (fun a' w' h' => ih _ a' w' h' ?_) (J.step hc hst hop h hi hiU)
      have hsz : i < listed.size := by rw [h.sz]; exact hUs i hiU
      have hunf : listed.getD i false = false := by
        have := (mem_ready.1 hi).1
        simp [hsz] at this ⊢
        exact this
      have := (cnt_set (List.range ops.size) listed i).2 (List.mem_range.2 (hUs i hiU)) hsz hunf
      omega
theorem rep_false (n i : Nat) : (Array.replicate n false).getD i false = false := by
  rw [Array.getD_eq_getD_getElem?, Array.getElem?_replicate]
  split <;> rfl
/-- A REGION THAT DRAWS ITS ORDER, one obligation an operation. -/
theorem region_rel {id : Nat} (hm : P.follows .mixedOrders = true) (U : List Nat) (R : Nat → Value → World → Prop) (D : Nat → Nat → Value → Value → Prop) (hc : chk ops a0.tmps.size U = true) (hst : ∀ i u w w', R i u w → Below w.heap.size w w' → R i u w') (hop : ∀ i ∈ U, OpOK P ops a0 w0 R D i)
    (hend : ∀ (v : Nat → Value) (w : World), Below w0.heap.size w0 w → (∀ i ∈ U, R i (v i) w) → (∀ i ∈ U, ∀ j ∈ U, i ≠ j → D i j (v i) (v j)) → ∀ fuel, cnt (List.range ops.size) (lst ops U) ≤ fuel → wpAny P .any ops Q fuel (lst ops U) (gfr ops a0 v U) w) :
    (Code.region id ops true).wp P Q a0 w0 := by
  refine wp_region_any hm (region_go hc hst hop hend _ _ _ _ ⟨by simp, fun i hi => ?_, fun i hi => ?_, rfl, rfl, fun t _ => rfl, fun i _ hi => ?_, fun i _ j _ _ hi => ?_, (Below.refl _ w0).drew⟩ ?_)
  · rw [rep_false] at hi; cases hi
  · rw [rep_false] at hi; cases hi
  · rw [rep_false] at hi; cases hi
  · rw [rep_false] at hi; cases hi
  · unfold cnt
    have := List.length_filter_le (fun i => !(Array.replicate ops.size false).getD i false) (List.range ops.size)
    rwa [List.length_range] at this
/-- Where U is all of them. -/
theorem region_all {id : Nat} (hm : P.follows .mixedOrders = true) (R : Nat → Value → World → Prop) (hc : chk ops a0.tmps.size (List.range ops.size) = true) (hst : ∀ i u w w', R i u w → Below w.heap.size w w' → R i u w') (hop : ∀ i ∈ List.range ops.size, OpOK P ops a0 w0 R (fun _ _ _ _ => True) i)
    (hend : ∀ (v : Nat → Value) (w : World), Below w0.heap.size w0 w → (∀ i ∈ List.range ops.size, R i (v i) w) → Q .normal (gfr ops a0 v (List.range ops.size)) w) :
    (Code.region id ops true).wp P Q a0 w0 := by
  refine region_rel hm (List.range ops.size) R (fun _ _ _ _ => True) hc hst hop fun v w h1 h2 _ fuel _ => ?_
  have hr : Region.ready .any ops (lst ops (List.range ops.size)) = [] := by
    refine List.eq_nil_iff_forall_not_mem.2 fun i hi => ?_
    obtain ⟨h0, o, ho, _⟩ := mem_ready.1 hi
    have his : i < ops.size := (Array.getElem?_eq_some_iff.1 ho).1
    simp [lst, his] at h0
  cases fuel with
  | zero => exact ⟨hr, hend v w h1 h2⟩
  | succ fuel => exact ⟨fun _ => hend v w h1 h2, fun i hi => by rw [hr] at hi; cases hi⟩
end
end Reg
end Go.Proofs.Ytcdnbidenaljlaa
