/- Regions that draw their order, and whose operations may grow rows in place: as XReg, but each operation says itself what lives on, and a value is told of only until its last reader has come. No program in sight. -/
import Derived.Test.YtcdnbidenaljlaaRegT
import Derived.Orders
namespace Go.Proofs.Ytcdnbidenaljlaa
open Go.RowKit

namespace RegC
open Reg
/-- A value that i's coming makes stale, or that is stale already. -/
def gone (ops : Array Oper) (dead : Nat → Option Nat) (i j : Nat) : Bool := ((anc ops ops.size).getD j 0).testBit i || match dead j with
  | none => false
  | some c => c == i || ((anc ops ops.size).getD i 0).testBit c
def lv (dead : Nat → Option Nat) (i j : Nat) : Bool := dead j == none || dead j == some i
def live (dead : Nat → Option Nat) (listed : Array Bool) (i : Nat) : Prop := ∀ c, dead i = some c → listed.getD c false = false
/-- What is asked of operation number i. -/
def OpOK (P : Program) (ops : Array Oper) (a0 : Act) (w0 : World) (dead : Nat → Option Nat) (R : Nat → Value → World → Prop) (D : Nat → Nat → Value → Value → Prop) (i : Nat) : Prop :=
  ∀ (v : Nat → Value) (w : World), Below w0.heap.size w0 w → (∀ j ∈ dp ops i, lv dead i j = true → R j (v j) w) → ∀ o, ops[i]? = some o →
    ∀ K : Act → World → Prop, (∀ u w', Below w0.heap.size w0 w' → R i u w' → (∀ j x, j ≠ i → gone ops dead i j = false → R j x w → (∀ d ∈ dp ops i, lv dead i d = true → d ≠ j → D d j (v d) x) → R j x w' ∧ D i j u x ∧ D j i x u) → K ((gfr ops a0 v (dp ops i)).put o.dst u) w') →
      if Region.wanted o (yielded ops (gfr ops a0 v (dp ops i)).tmps) = true then o.wp P (gfr ops a0 v (dp ops i)) w K (fun _ _ _ => False) else K ((gfr ops a0 v (dp ops i)).put o.dst undef) w
structure J (ops : Array Oper) (U : List Nat) (a0 : Act) (w0 : World) (dead : Nat → Option Nat) (R : Nat → Value → World → Prop) (D : Nat → Nat → Value → Value → Prop) (listed : Array Bool) (a : Act) (w : World) : Prop where
  sz : listed.size = ops.size
  down : ∀ i, listed.getD i false = true → ∀ j ∈ dp ops i, listed.getD j false = true
  inU : ∀ i, listed.getD i false = true → i ∈ U
  dfr : a.defers = a0.defers
  len : a.tmps.size = a0.tmps.size
  old : ∀ t, (∀ i ∈ U, listed.getD i false = true → dst ops i ≠ some t) → a.tmps[t]? = a0.tmps[t]?
  rel : ∀ i ∈ U, listed.getD i false = true → live dead listed i → R i (val ops a i) w
  dis : ∀ i ∈ U, ∀ j ∈ U, i ≠ j → listed.getD i false = true → listed.getD j false = true → live dead listed i → live dead listed j → D i j (val ops a i) (val ops a j)
  s : Below w0.heap.size w0 w

section
variable {P : Program} {ops : Array Oper} {Q : Exit → Act → World → Prop} {U : List Nat} {a0 : Act} {w0 : World} {dead : Nat → Option Nat} {R : Nat → Value → World → Prop} {D : Nat → Nat → Value → Value → Prop}
theorem of_old {i : Nat} (hl : ((dp ops i).all fun j => lv dead i j) = true) (hst : ∀ i u w w', R i u w → Below w.heap.size w w' → R i u w') (hD : ∀ j u x, D i j u x ∧ D j i x u) (h : Reg.OpOK P ops a0 w0 R (fun _ _ _ _ => True) i) : OpOK P ops a0 w0 dead R D i := fun v w hb hd o ho K hK =>
  h v w hb (fun j hj => hd j hj (List.all_eq_true.1 hl j hj)) o ho K fun u w' hb' hR _ => hK u w' (below_then hb hb' (Nat.le_refl _)) hR fun j x _ _ hx _ => ⟨hst j x w w' hx hb', hD j u x⟩
theorem op_ok2 {i : Nat} (f : Array Edge → Oper) (af0 : Array Edge) (ho : ops[i]? = some (f af0)) (L : List Nat) (hdp : dp ops i = L)
    (h : ∀ (af : Array Edge) (v : Nat → Value) (W : World), Below w0.heap.size w0 W → (∀ j ∈ L, lv dead i j = true → R j (v j) W) → Region.wanted (f af) (yielded ops (gfr ops a0 v L).tmps) = true ∧ OpGo P (f af) (gfr ops a0 v L) W (fun u w' => Below w0.heap.size w0 w' ∧ R i u w' ∧ ∀ j x, j ≠ i → gone ops dead i j = false → R j x W → (∀ d ∈ L, lv dead i d = true → d ≠ j → D d j (v d) x) → R j x w' ∧ D i j u x ∧ D j i x u)) : OpOK P ops a0 w0 dead R D i := fun v W hb hd o' ho' K hK => by
  rw [ho] at ho'
  cases ho'
  rw [hdp] at hd hK ⊢
  obtain ⟨hw, hg⟩ := h af0 v W hb hd
  rw [if_pos hw]
  exact hg K fun u w' ⟨h1, h2, h3⟩ => hK u w' h1 h2 h3
/-- One step: whichever of U comes up. -/
theorem J.step {listed : Array Bool} {a : Act} {w : World} (hc : chk ops a0.tmps.size U = true) (hop : ∀ i ∈ U, OpOK P ops a0 w0 dead R D i)
    (h : J ops U a0 w0 dead R D listed a w) {i : Nat} (hr : i ∈ Region.ready .any ops listed) (hi : i ∈ U) : wpOp P ops Q i (fun a' w' => J ops U a0 w0 dead R D (listed.setIfInBounds i true) a' w') a w := by
  obtain ⟨c1, c2, c3⟩ := chk_spec hc
  obtain ⟨hun, o, ho, hall⟩ := mem_ready.1 hr
  obtain ⟨o', d, ho', hd, hlt, hsel, hdU', hlook⟩ := c1 i hi
  have hdU : ∀ j ∈ dp ops i, j ∈ U := fun j hj => (hdU' j hj).1
  rw [ho] at ho'
  cases ho'
  have hsz : i < listed.size := by
    rcases Nat.lt_or_ge i listed.size with h' | h'
    · exact h'
    · simp [Array.getElem?_eq_none h'] at hun
  have hunf : listed.getD i false = false := by
    simp [hsz] at hun ⊢
    exact hun
  have hdl : ∀ j ∈ dp ops i, listed.getD j false = true := fun j hj => by
    obtain ⟨e, he, hb, rfl⟩ := (dp_of ho j).1 hj
    exact hall e he hb
  have hsel' : ∀ cs b, o.op ≠ .select cs b := fun cs b e => by unfold notSel at hsel; rw [e] at hsel; cases hsel
  have hdlv : ∀ j ∈ dp ops i, lv dead i j = true → live dead listed j := fun j hj h1 c hcd => by
    unfold lv at h1
    simp only [Bool.or_eq_true, beq_iff_eq] at h1
    rcases h1 with h1 | h1
    · rw [h1] at hcd; cases hcd
    · rw [h1] at hcd; cases hcd; exact hunf
  -- the slots that o looks at
  have hsame : ∀ t ∈ o.looksAt ops, a.tmps[t]? = (gfr ops a0 (val ops a) (dp ops i)).tmps[t]? := fun t ht => by
    by_cases hex : ∃ j ∈ U, dst ops j = some t
    · obtain ⟨j, hj, hjt⟩ := hex
      have huniq : ∀ x ∈ U, dst ops x = some t → x = j := fun x hx hxt => Classical.byContradiction fun hne => c2 x hx j hj hne (by rw [hxt, hjt])
      by_cases hjd : j ∈ dp ops i
      · obtain ⟨oj, dj, hoj, hdj, hltj, _⟩ := c1 j hj
        have hdj' : dst ops j = some dj := by rw [dst_of hoj, hdj]
        rw [hjt] at hdj'
        cases hdj'
        rw [gfr_in _ j t (fun x hx => huniq x (hdU x hx)) hjd hjt hltj]
        unfold val
        rw [hjt]
        have : t < a.tmps.size := by rw [h.len]; exact hltj
        simp [this]
      · have hb := (hlook t ht j hj hjt).resolve_left hjd
        have hjn : listed.getD j false = false := by
          cases hjl : listed.getD j false with
          | false => rfl
          | true =>
            have hjs : j < ops.size := by
              rcases Nat.lt_or_ge j ops.size with h' | h'
              · exact h'
              · obtain ⟨oj, _, hoj, _⟩ := c1 j hj
                rw [Array.getElem?_eq_none h'] at hoj
                cases hoj
            have := anc_spec (L := fun x => listed.getD x false = true) h.down ops.size j i hjs hjl hb
            rw [hunf] at this
            cases this
        rw [h.old t (fun x hx hxl hxt => by rw [huniq x hx hxt, hjn] at hxl; cases hxl), gfr_out _ t (fun x hx hxt => hjd (huniq x (hdU x hx) hxt ▸ hx))]
    · rw [h.old t (fun x hx _ hxt => hex ⟨x, hx, hxt⟩), gfr_out _ t (fun x hx hxt => hex ⟨x, hdU x hx, hxt⟩)]
  have hex : execOp a.eval o = execOp (gfr ops a0 (val ops a) (dp ops i)).eval o := execOp_congr o hsel' fun x hx => by
    cases x with
    | tmp t =>
      have := hsame t (List.mem_append_left _ (List.mem_filterMap.2 ⟨.tmp t, by simpa using hx, rfl⟩))
      simp only [Act.eval, Array.getD_eq_getD_getElem?, this]
    | _ => rfl
  have hwant : Region.wanted o (yielded ops a.tmps) = Region.wanted o (yielded ops (gfr ops a0 (val ops a) (dp ops i)).tmps) := by
    unfold Region.wanted
    cases hg : o.guard with
    | none => rfl
    | some gw =>
      obtain ⟨g, want⟩ := gw
      have hy : yielded ops a.tmps g = yielded ops (gfr ops a0 (val ops a) (dp ops i)).tmps g := by
        unfold yielded
        cases ht : (ops[g]?).bind (·.dst) with
        | none => rfl
        | some t =>
          have := hsame t (List.mem_append_right _ (by simp [hg, ht]))
          simp only [Option.bind_some, this]
      simp only [hy]
  have hdsti : dst ops i = some d := by rw [dst_of ho, hd]
  have hop' := hop i hi (val ops a) w h.s (fun j hj hlv => h.rel j (hdU j hj) (hdl j hj) (hdlv j hj hlv)) o ho
  -- what comes behind
  have hend : ∀ u w', (Below w0.heap.size w0 w' ∧ R i u w' ∧ ∀ j x, j ≠ i → gone ops dead i j = false → R j x w → (∀ d ∈ dp ops i, lv dead i d = true → d ≠ j → D d j (val ops a d) x) → R j x w' ∧ D i j u x ∧ D j i x u) → J ops U a0 w0 dead R D (listed.setIfInBounds i true) (a.put o.dst u) w' := fun u w' ⟨hb, hR, hD⟩ => by
    have hvi : val ops (a.put o.dst u) i = u := by
      rw [val_of hdsti, hd, put_same a d u (by rw [h.len]; exact hlt)]
      rfl
    have hvj : ∀ j ∈ U, j ≠ i → val ops (a.put o.dst u) j = val ops a j := fun j hj hne => by
      obtain ⟨oj, t, hoj, hdj0, _⟩ := c1 j hj
      have hdj : dst ops j = some t := by rw [dst_of hoj, hdj0]
      rw [val_of hdj, val_of hdj, put_other a o.dst u t (by rw [hd, ← hdsti, ← hdj]; exact c2 i hi j hj (Ne.symm hne))]
    have hset : ∀ j, (listed.setIfInBounds i true).getD j false = true ↔ j = i ∨ listed.getD j false = true := fun j => by
      by_cases hji : j = i
      · subst hji
        simp [hsz]
      · rw [getD_set_ne false (Ne.symm hji)]
        simp [hji]
    have hlv : ∀ j, live dead (listed.setIfInBounds i true) j → live dead listed j := fun j hj c hcd => by
      cases hl : listed.getD c false with
      | false => rfl
      | true =>
        have := hj c hcd
        rw [(hset c).2 (.inr hl)] at this
        cases this
    have hgo : ∀ j, j ∈ U → listed.getD j false = true → live dead (listed.setIfInBounds i true) j → gone ops dead i j = false := fun j hjU hjl hj => by
      unfold gone
      rw [Bool.or_eq_false_iff]
      refine ⟨?_, ?_⟩
      · cases hb2 : ((anc ops ops.size).getD j 0).testBit i with
        | false => rfl
        | true =>
          obtain ⟨oj, _, hoj, _⟩ := c1 j hjU
          have := anc_spec (L := fun x => listed.getD x false = true) h.down ops.size j i (Array.getElem?_eq_some_iff.1 hoj).1 hjl hb2
          rw [hunf] at this
          cases this
      cases hd2 : dead j with
      | none => rfl
      | some c =>
        have hcl := hj c hd2
        simp only [Bool.or_eq_false_iff, beq_eq_false_iff_ne, ne_eq]
        refine ⟨fun e => ?_, ?_⟩
        · rw [(hset c).2 (.inl e)] at hcl
          cases hcl
        · cases hb2 : ((anc ops ops.size).getD i 0).testBit c with
          | false => rfl
          | true =>
            have his : i < ops.size := (Array.getElem?_eq_some_iff.1 ho).1
            have := anc_spec (L := fun x => (listed.setIfInBounds i true).getD x false = true) (fun x hx k hk => by
              rcases (hset x).1 hx with rfl | hx
              · exact (hset k).2 (.inr (hdl k hk))
              · exact (hset k).2 (.inr (h.down x hx k hk))) ops.size i c his ((hset i).2 (.inl rfl)) hb2
            rw [this] at hcl
            cases hcl
    have hDD : ∀ j, j ∈ U → j ≠ i → listed.getD j false = true → live dead listed j → ∀ d ∈ dp ops i, lv dead i d = true → d ≠ j → D d j (val ops a d) (val ops a j) := fun j hj hji hjl hjv d hdm hdlvd hdj => h.dis d (hdU d hdm) j hj hdj (hdl d hdm) hjl (hdlv d hdm hdlvd) hjv
    refine ⟨by rw [Array.size_setIfInBounds]; exact h.sz, fun j hj k hk => ?_, fun j hj => ?_, by rw [put_defers]; exact h.dfr, by rw [put_size]; exact h.len, fun t ht => ?_, fun j hj hjl hjv => ?_, fun j hj k hk hne hjl hkl hjv hkv => ?_, hb⟩
    · rcases (hset j).1 hj with rfl | hj
      · exact (hset k).2 (.inr (hdl k hk))
      · exact (hset k).2 (.inr (h.down j hj k hk))
    · rcases (hset j).1 hj with rfl | hj
      · exact hi
      · exact h.inU j hj
    · rw [put_other a o.dst u t (by rw [hd, ← hdsti]; exact ht i hi ((hset i).2 (.inl rfl))), h.old t fun j hj hjl => ht j hj ((hset j).2 (.inr hjl))]
    · by_cases hji : j = i
      · subst hji
        rw [hvi]
        exact hR
      · rw [hvj j hj hji]
        have hjl' := ((hset j).1 hjl).resolve_left hji
        exact (hD j _ hji (hgo j hj hjl' hjv) (h.rel j hj hjl' (hlv j hjv)) (hDD j hj hji hjl' (hlv j hjv))).1
    · by_cases hji : j = i
      · subst hji
        have hkj := Ne.symm hne
        have hkl' := ((hset k).1 hkl).resolve_left hkj
        rw [hvi, hvj k hk hkj]
        exact (hD k _ hkj (hgo k hk hkl' hkv) (h.rel k hk hkl' (hlv k hkv)) (hDD k hk hkj hkl' (hlv k hkv))).2.1
      · have hjl' := ((hset j).1 hjl).resolve_left hji
        by_cases hki : k = i
        · subst hki
          rw [hvi, hvj j hj hji]
          exact (hD j _ hji (hgo j hj hjl' hjv) (h.rel j hj hjl' (hlv j hjv)) (hDD j hj hji hjl' (hlv j hjv))).2.2
        · rw [hvj j hj hji, hvj k hk hki]
          exact h.dis j hj k hk hne hjl' (((hset k).1 hkl).resolve_left hki) (hlv j hjv) (hlv k hkv)
  unfold wpOp
  rw [ho]
  simp only
  rw [hwant]
  by_cases hw : Region.wanted o (yielded ops (gfr ops a0 (val ops a) (dp ops i)).tmps) = true
  · rw [if_pos hw]
    refine .inl (wp_transfer (a0 := a0) (post := fun u w' => Below w0.heap.size w0 w' ∧ R i u w' ∧ ∀ j x, j ≠ i → gone ops dead i j = false → R j x w → (∀ d ∈ dp ops i, lv dead i d = true → d ≠ j → D d j (val ops a d) x) → R j x w' ∧ D i j u x ∧ D j i x u) hex hd (by rw [gfr_size]; exact hlt) (gfr_defers _) (fun K' hK' => ?_) hend)
    have := hop' K' (fun u w' h1 h2 h3 => hK' u w' ⟨h1, h2, h3⟩)
    rwa [if_pos hw] at this
  · rw [if_neg hw]
    -- not wanted: the slot is told nothing of; so it must be told to be so
    have h0 := hop' (fun a' w' => (Below w0.heap.size w0 w' ∧ R i (a'.tmps.getD d undef) w' ∧ ∀ j x, j ≠ i → gone ops dead i j = false → R j x w → (∀ d ∈ dp ops i, lv dead i d = true → d ≠ j → D d j (val ops a d) x) → R j x w' ∧ D i j (a'.tmps.getD d undef) x ∧ D j i x (a'.tmps.getD d undef))) (fun u w' h1 h2 h3 => by
      have : ((gfr ops a0 (val ops a) (dp ops i)).put o.dst u).tmps.getD d undef = u := by
        rw [hd, Array.getD_eq_getD_getElem?, put_same _ d u (by rw [gfr_size]; exact hlt)]
        rfl
      rw [this]
      exact ⟨h1, h2, h3⟩)
    rw [if_neg hw] at h0
    have : ((gfr ops a0 (val ops a) (dp ops i)).put o.dst undef).tmps.getD d undef = undef := by
      rw [hd, Array.getD_eq_getD_getElem?, put_same _ d undef (by rw [gfr_size]; exact hlt)]
      rfl
    rw [this] at h0
    exact hend undef w h0
theorem J.ready_in {listed : Array Bool} {a : Act} {w : World} (h : J ops U a0 w0 dead R D listed a w) {i : Nat} (hi : i < ops.size) (hd : ∀ j ∈ dp ops i, listed.getD j false = true) (h0 : Region.ready .any ops listed = []) : listed.getD i false = true := by
  cases hl : listed.getD i false with
  | true => rfl
  | false =>
    exfalso
    have ho : ops[i]? = some ops[i] := Array.getElem?_eq_getElem hi
    have : i ∈ Region.ready .any ops listed := mem_ready.2 ⟨by
      have hs : i < listed.size := by rw [h.sz]; exact hi
      simp [hs] at hl ⊢
      exact hl, _, ho, fun e he hb => hd _ ((dp_of ho _).2 ⟨e, he, hb, rfl⟩)⟩
    rw [h0] at this
    cases this
theorem J.fin {listed : Array Bool} {a : Act} {w : World} (hc : chk ops a0.tmps.size U = true) (h : J ops U a0 w0 dead R D listed a w) (hall : ∀ u ∈ U, listed.getD u false = true)
    (hend : ∀ (v : Nat → Value) (w : World), Below w0.heap.size w0 w → (∀ i ∈ U, dead i = none → R i (v i) w) → ∀ fuel, cnt (List.range ops.size) (lst ops U) ≤ fuel → wpAny P .any ops Q fuel (lst ops U) (gfr ops a0 v U) w)
    {fuel : Nat} (hf : cnt (List.range ops.size) listed ≤ fuel) : wpAny P .any ops Q fuel listed a w := by
  obtain ⟨c1, c2, c3⟩ := chk_spec hc
  have hl : listed = lst ops U := by
    apply Array.ext (by rw [h.sz]; simp [lst])
    intro i h1 h2
    have h3 : (lst ops U)[i] = U.contains i := by simp [lst]
    rw [h3]
    cases hu : listed[i] with
    | true => exact (by have := h.inU i (by simp [h1, hu]); simp [this] : true = U.contains i)
    | false =>
      refine Eq.symm (Bool.eq_false_iff.2 fun hm => ?_)
      have := hall i (by simpa using hm)
      simp [h1, hu] at this
  have ha : a = gfr ops a0 (val ops a) U := act_ext (by rw [gfr_defers, h.dfr]) fun t => by
    by_cases hex : ∃ j ∈ U, dst ops j = some t
    · obtain ⟨j, hj, hjt⟩ := hex
      obtain ⟨oj, dj, hoj, hdj, hltj, _⟩ := c1 j hj
      have hdj' : dst ops j = some dj := by rw [dst_of hoj, hdj]
      rw [hjt] at hdj'
      cases hdj'
      rw [gfr_in _ j t (fun x hx hxt => Classical.byContradiction fun hne => c2 x hx j hj hne (by rw [hxt, hjt])) hj hjt hltj, val_of hjt]
      have : t < a.tmps.size := by rw [h.len]; exact hltj
      simp [this]
    · rw [h.old t (fun x hx _ hxt => hex ⟨x, hx, hxt⟩), gfr_out _ t (fun x hx hxt => hex ⟨x, hx, hxt⟩)]
  have hrel : ∀ i ∈ U, dead i = none → R i (val ops a i) w := fun i hi hn => h.rel i hi (hall i hi) fun c e => by rw [hn] at e; cases e
  rw [hl] at hf ⊢
  generalize val ops a = v at *
  subst ha
  exact hend v w h.s hrel fuel hf
theorem region_go (hc : chk ops a0.tmps.size U = true) (hop : ∀ i ∈ U, OpOK P ops a0 w0 dead R D i)
    (hend : ∀ (v : Nat → Value) (w : World), Below w0.heap.size w0 w → (∀ i ∈ U, dead i = none → R i (v i) w) → ∀ fuel, cnt (List.range ops.size) (lst ops U) ≤ fuel → wpAny P .any ops Q fuel (lst ops U) (gfr ops a0 v U) w) :
    ∀ (fuel : Nat) (listed : Array Bool) (a : Act) (w : World), J ops U a0 w0 dead R D listed a w → cnt (List.range ops.size) listed ≤ fuel → wpAny P .any ops Q fuel listed a w := by
  obtain ⟨c1, c2, c3⟩ := chk_spec hc
  have hUs : ∀ u ∈ U, u < ops.size := fun u hu => by
    obtain ⟨o, _, ho, _⟩ := c1 u hu
    rcases Nat.lt_or_ge u ops.size with h' | h'
    · exact h'
    · rw [Array.getElem?_eq_none h'] at ho; cases ho
  intro fuel
  induction fuel with
  | zero =>
    intro listed a w h hf
    have hall : ∀ u ∈ U, listed.getD u false = true := fun u hu => by
      cases hl : listed.getD u false with
      | true => rfl
      | false =>
        exfalso
        have : u ∈ (List.range ops.size).filter fun i => !listed.getD i false := List.mem_filter.2 ⟨List.mem_range.2 (hUs u hu), by rw [hl]; rfl⟩
        have := List.length_pos_of_mem this
        unfold cnt at hf
        omega
    exact J.fin hc h hall hend hf
  | succ fuel ih =>
    intro listed a w h hf
    by_cases hall : ∀ u ∈ U, listed.getD u false = true
    · exact J.fin hc h hall hend hf
    have hex : ∃ u, u ∈ U ∧ listed.getD u false = false := by
      refine Classical.byContradiction fun hn => hall fun u hu => ?_
      cases hl : listed.getD u false with
      | true => rfl
      | false => exact absurd ⟨u, hu, hl⟩ hn
    refine ⟨fun h0 => ?_, fun i hi => ?_⟩
    · exfalso
      obtain ⟨u, hu, hul⟩ := hex
      have key : ∀ n u, u ≤ n → u ∈ U → listed.getD u false = true := by
        intro n
        induction n with
        | zero =>
          intro u hun hu
          obtain rfl : u = 0 := by omega
          refine J.ready_in h (hUs _ hu) (fun j hj => ?_) h0
          obtain ⟨_, _, _, _, _, _, hd, _⟩ := c1 0 hu
          exact absurd (hd j hj).2 (by omega)
        | succ n ihn =>
          intro u hun hu
          refine J.ready_in h (hUs _ hu) (fun j hj => ?_) h0
          obtain ⟨_, _, _, _, _, _, hd, _⟩ := c1 u hu
          exact ihn j (by have := (hd j hj).2; omega) (hd j hj).1
      rw [key u u (Nat.le_refl _) hu] at hul
      cases hul
    · have hiU : i ∈ U := by
        refine Classical.byContradiction fun hn => ?_
        obtain ⟨u, hu, hul⟩ := hex
        obtain ⟨hun, o, ho, hdep⟩ := mem_ready.1 hi
        have his : i < ops.size := (Array.getElem?_eq_some_iff.1 ho).1
        have := anc_spec (ops := ops) (L := fun x => listed.getD x false = true ∨ x = i) (fun x hx j hj => by
          rcases hx with hx | rfl
          · exact .inl (h.down x hx j hj)
          · obtain ⟨e, he, hb, rfl⟩ := (dp_of ho j).1 hj
            exact .inl (hdep e he hb)) ops.size i u his (.inr rfl) (c3 i his hn u hu)
        rcases this with h1 | rfl
        · rw [h1] at hul; cases hul
        · exact hn hu
      refine wpOp_mono (fun a' w' h' => ih _ a' w' h' ?_) (J.step hc hop h hi hiU)
      have hsz : i < listed.size := by rw [h.sz]; exact hUs i hiU
      have hunf : listed.getD i false = false := by
        have := (mem_ready.1 hi).1
        simp [hsz] at this ⊢
        exact this
      have := (cnt_set (List.range ops.size) listed i).2 (List.mem_range.2 (hUs i hiU)) hsz hunf
      omega
/-- A REGION THAT DRAWS ITS ORDER, one obligation an operation. -/
theorem region_rel {id : Nat} (hm : P.follows .mixedOrders = true) (U : List Nat) (dead : Nat → Option Nat) (R : Nat → Value → World → Prop) (D : Nat → Nat → Value → Value → Prop) (hc : chk ops a0.tmps.size U = true) (hop : ∀ i ∈ U, OpOK P ops a0 w0 dead R D i)
    (hend : ∀ (v : Nat → Value) (w : World), Below w0.heap.size w0 w → (∀ i ∈ U, dead i = none → R i (v i) w) → ∀ fuel, cnt (List.range ops.size) (lst ops U) ≤ fuel → wpAny P .any ops Q fuel (lst ops U) (gfr ops a0 v U) w) :
    (Code.region id ops true).wp P Q a0 w0 := by
  refine wp_region_any hm (region_go hc hop hend _ _ _ _ ⟨by simp, fun i hi => ?_, fun i hi => ?_, rfl, rfl, fun t _ => rfl, fun i _ hi => ?_, fun i _ j _ _ hi => ?_, (Below.refl _ w0).drew⟩ ?_)
  · rw [rep_false] at hi; cases hi
  · rw [rep_false] at hi; cases hi
  · rw [rep_false] at hi; cases hi
  · rw [rep_false] at hi; cases hi
  · unfold cnt
    have := List.length_filter_le (fun i => !(Array.replicate ops.size false).getD i false) (List.range ops.size)
    rwa [List.length_range] at this
/-- Where U is all of them. -/
theorem region_all {id : Nat} (hm : P.follows .mixedOrders = true) (dead : Nat → Option Nat) (R : Nat → Value → World → Prop) (D : Nat → Nat → Value → Value → Prop) (hc : chk ops a0.tmps.size (List.range ops.size) = true) (hop : ∀ i ∈ List.range ops.size, OpOK P ops a0 w0 dead R D i)
    (hend : ∀ (v : Nat → Value) (w : World), Below w0.heap.size w0 w → (∀ i ∈ List.range ops.size, dead i = none → R i (v i) w) → Q .normal (gfr ops a0 v (List.range ops.size)) w) :
    (Code.region id ops true).wp P Q a0 w0 := by
  refine region_rel hm (List.range ops.size) dead R D hc hop fun v w h1 h2 fuel _ => ?_
  have hr : Region.ready .any ops (lst ops (List.range ops.size)) = [] := by
    refine List.eq_nil_iff_forall_not_mem.2 fun i hi => ?_
    obtain ⟨h0, o, ho, _⟩ := mem_ready.1 hi
    have his : i < ops.size := (Array.getElem?_eq_some_iff.1 ho).1
    simp [lst, his] at h0
  cases fuel with
  | zero => exact ⟨hr, hend v w h1 h2⟩
  | succ fuel => exact ⟨fun _ => hend v w h1 h2, fun i hi => by rw [hr] at hi; cases hi⟩
end
end RegC
end Go.Proofs.Ytcdnbidenaljlaa
