/- Drawn regions: operations that are not wanted, slice literals, whole variables that are loaded, made and, at the end, stored. No program in sight. -/
import Derived.Test.YtcdnbidenaljlaaRegR
import Derived.Test.YtcdnbidenaljlaaA
import Derived.Great.Walk
namespace Go.Proofs.Ytcdnbidenaljlaa
open Go.RowKit

/-- A whole variable is stored into its block. -/
theorem wp_store_z {P : Program} {o : Oper} {a : Act} {w : World} {K : Act → World → Prop} {Q : Exit → Act → World → Prop} (ty : TypeId) (x y : Operand) (ho : o.op = .store ty x y) (g : Nat) (hx : a.eval x = .pointer (some ⟨g, 0, none⟩)) (cs : Array Value) (hy : a.eval y = .agg cs)
    (cur : Array Value) (t : TypeId) (hg : w.heap[g]? = some (.cells cur t (0, 0))) (hs : cs.size = cur.size) (hi : (P.info? ty).map (·.size) = some cs.size) (h1 : ∀ u ∈ cs.toList, u.oneCell' = true)
    (hK : K (a.put o.dst undef) (w.setRow g cs)) : o.wp P a w K Q := by
  have hrun : (storeCells ⟨g, 0, none⟩ cs.toList 0).run P w = .ok () (w.setRow g cs) := by
    have := run_storeCells_at P g 0 t cs.toList 0 cur w hg (by simp [hs]) h1
    rw [this]
    congr 2
    apply Array.ext'
    simp [hs]
  cases hq : P.info? ty with
  | none => simp [hq] at hi
  | some i =>
    have hsz : cs.size = i.size := by simp [hq] at hi; omega
    unfold Oper.wp execOp
    simp only [ho, hx, hy, Instr.storeAt, Instr.sureAddr, Sem.run_bind, Sem.run_pure, Result.andThen_ok, storeVar, sizeOf, typeInfo, hq]
    simp [hq, Value.cells, hsz, hrun]
    exact hK
/-- 'var x T'. -/
theorem wp_alloc_z {P : Program} {o : Oper} {a : Act} {w : World} {K : Act → World → Prop} {Q : Exit → Act → World → Prop} (ty : TypeId) (ho : o.op = .alloc ty) (Z : Array Value) (hz : (P.info? ty).bind (fun i => i.zero.map Value.cells) = some Z)
    (h : K (a.put o.dst (.pointer (some ⟨w.heap.size, 0, none⟩))) (w.alloc (.cells Z ty))) : o.wp P a w K Q := by
  cases hq : P.info? ty with
  | none => simp [hq] at hz
  | some i =>
    cases hq2 : i.zero with
    | none => simp [hq, hq2] at hz
    | some v =>
      have hv : v.cells = Z := by simpa [hq, hq2] using hz
      unfold Oper.wp execOp
      simp only [ho, Instr.alloc, zeroValue, typeInfo, Sem.run_bind, Sem.run_pure, hq]
      simp [hq, hq2, newVar, newRow, hv]
      exact h
/-- One number is stored. -/
theorem wp_store_one {P : Program} {o : Oper} {a : Act} {w : World} {K : Act → World → Prop} {Q : Exit → Act → World → Prop} (ty : TypeId) (x y : Operand) (ho : o.op = .store ty x y) (p : Addr) (hx : a.eval x = .pointer (some p)) (kk : IntKind) (n : Int) (hy : a.eval y = .int kk n) (old : Value)
    (h1 : w.cell? p = some old) (h2 : w.frozen? p = false) (hs : (P.info? ty).map (·.size) = some 1) (hd : o.dst = none) (hK : K a (w.setCell p (.int kk n))) : o.wp P a w K Q := by
  cases hq : P.info? ty with
  | none => simp [hq] at hs
  | some i =>
    have hsz : i.size = 1 := by simpa [hq] using hs
    unfold Oper.wp execOp
    simp only [ho, hx, hy, Instr.storeAt, Instr.sureAddr, Sem.run_bind, Sem.run_pure, Result.andThen_ok, storeVar, sizeOf, typeInfo, hq]
    simp [hq, hsz, Value.cells, storeCells, go_sem, h1, h2, addr_add_zero, Oper.upon, hd, Act.put]
    exact hK
namespace Reg
section
variable {P : Program} {ops : Array Oper} {a0 : Act} {v : Nat → Value} {L : List Nat} {w0 : World} {R : Nat → Value → World → Prop} {D : Nat → Nat → Value → Value → Prop}
theorem wanted_not {o : Oper} {g t : Nat} {b : Bool} {G : Act} (h : o.guard = some (g, b)) (hd : dst ops g = some t) (he : G.eval (.tmp t) = .bool (!b)) : Region.wanted o (yielded ops G.tmps) = false := by
  unfold Region.wanted
  rw [h]
  simp only
  unfold yielded
  unfold dst at hd
  rw [hd]
  simp only [Act.eval, Array.getD_eq_getD_getElem?, Option.bind_some] at he ⊢
  cases ht : G.tmps[t]? with
  | none => rw [ht] at he; cases he
  | some x =>
    rw [ht] at he
    simp only [Option.getD_some] at he
    rw [he]
    cases b <;> simp
/-- An operation that is not wanted. -/
theorem op_no {i : Nat} {o : Oper} (ho : ops[i]? = some o) (L : List Nat) (hdp : dp ops i = L)
    (h : ∀ (v : Nat → Value) (W : World), Below w0.heap.size w0 W → (∀ j ∈ L, R j (v j) W) → Region.wanted o (yielded ops (gfr ops a0 v L).tmps) = false ∧ R i undef W ∧ ∀ j x, j ≠ i → R j x W → D i j undef x ∧ D j i x undef) : OpOK P ops a0 w0 R D i := fun v W hb hd o' ho' K hK => by
  rw [ho] at ho'
  cases ho'
  rw [hdp] at hd hK ⊢
  obtain ⟨hw, hg, h3⟩ := h v W hb hd
  rw [if_neg (by rw [hw]; decide)]
  exact hK undef W (Below.refl _ _) hg h3
theorem op_ok2 {i : Nat} (f : Array Edge → Oper) (af0 : Array Edge) (ho : ops[i]? = some (f af0)) (L : List Nat) (hdp : dp ops i = L)
    (h : ∀ (af : Array Edge) (v : Nat → Value) (W : World), Below w0.heap.size w0 W → (∀ j ∈ L, R j (v j) W) → Region.wanted (f af) (yielded ops (gfr ops a0 v L).tmps) = true ∧ OpGo P (f af) (gfr ops a0 v L) W (fun u w' => Below W.heap.size W w' ∧ R i u w')) : OpOK P ops a0 w0 R (fun _ _ _ _ => True) i := op_ok ho L hdp (h af0)
theorem op_okD2 {i : Nat} (f : Array Edge → Oper) (af0 : Array Edge) (ho : ops[i]? = some (f af0)) (L : List Nat) (hdp : dp ops i = L)
    (h : ∀ (af : Array Edge) (v : Nat → Value) (W : World), Below w0.heap.size w0 W → (∀ j ∈ L, R j (v j) W) → Region.wanted (f af) (yielded ops (gfr ops a0 v L).tmps) = true ∧ OpGo P (f af) (gfr ops a0 v L) W (fun u w' => Below W.heap.size W w' ∧ R i u w' ∧ ∀ j x, j ≠ i → R j x W → D i j u x ∧ D j i x u)) : OpOK P ops a0 w0 R D i := op_okD ho L hdp (h af0)
theorem op_no2 {i : Nat} (f : Array Edge → Oper) (af0 : Array Edge) (ho : ops[i]? = some (f af0)) (L : List Nat) (hdp : dp ops i = L)
    (h : ∀ (af : Array Edge) (v : Nat → Value) (W : World), Below w0.heap.size w0 W → (∀ j ∈ L, R j (v j) W) → Region.wanted (f af) (yielded ops (gfr ops a0 v L).tmps) = false ∧ R i undef W ∧ ∀ j x, j ≠ i → R j x W → D i j undef x ∧ D j i x undef) : OpOK P ops a0 w0 R D i := op_no ho L hdp (h af0)
theorem go_build {o : Oper} {G : Act} {W : World} {post : Value → World → Prop} (t e : TypeId) (len : Nat) (parts : Array (Nat × Operand)) (ho : o.op = .buildSlice t len parts) (hu : P.underlying t = some (.slice e)) (cells : Array Value)
    (hf : P.builtSlice e len (parts.map fun (i, x) => (i, G.eval x)).toList = some cells) (hp : post (.slice (some ⟨W.heap.size, 0, none⟩) len len) (W.alloc (.cells cells e))) : OpGo P o G W post := fun K hK => by
  unfold Program.builtSlice at hf
  cases hie : P.info? e with
  | none => simp [hie] at hf
  | some ie =>
    simp only [hie] at hf
    cases hz : ie.zero with
    | none => simp [hz] at hf
    | some z =>
      simp only [hz] at hf
      by_cases hc : len * ie.size > 2 ^ 24 ∨ len * ie.size = 0
      · simp [hc] at hf
      · rw [if_neg hc] at hf
        exact wp_buildSlice t e len parts ho cells ie z hu hie hz (fun h' => hc (Or.inl h')) (fun h' => hc (Or.inr h')) hf (hK _ _ hp)
theorem go_alloc {o : Oper} {G : Act} {W : World} {post : Value → World → Prop} (ty : TypeId) (ho : o.op = .alloc ty) (Z : Array Value) (hz : (P.info? ty).bind (fun i => i.zero.map Value.cells) = some Z)
    (hp : post (.pointer (some ⟨W.heap.size, 0, none⟩)) (W.alloc (.cells Z ty))) : OpGo P o G W post := fun K hK => wp_alloc_z ty ho Z hz (hK _ _ hp)
theorem look_none {L : List Nat} {ts : List Nat} {t : Nat} (hl : (L.map fun j => dst ops j) = ts.map some) (ht : ts.contains t = false) : look ops L t = none := by
  unfold look
  rw [List.find?_eq_none]
  intro j hj
  have hm : dst ops j ∈ L.map fun j => dst ops j := List.mem_map.2 ⟨j, hj, rfl⟩
  rw [hl] at hm
  simp at hm
  obtain ⟨x, hx, he⟩ := hm
  rw [← he]
  simp only [beq_iff_eq, Option.some.injEq]
  rintro rfl
  simp [hx] at ht
theorem dp_lt {k : Nat} (h : (dp ops k).all (fun j => decide (j < k)) = true) : ∀ j ∈ dp ops k, j < k := fun j hj => by simpa using List.all_eq_true.1 h j hj
/-- A variable, made by the region. -/
def IsCell (B : Nat) (t : TypeId) (cs : Array Value) (u : Value) (w : World) : Prop := ∃ g, u = .pointer (some ⟨g, 0, none⟩) ∧ B ≤ g ∧ w.heap[g]? = some (.cells cs t (0, 0))
theorem IsCell.below {B : Nat} {t : TypeId} {cs : Array Value} {u : Value} {w w' : World} (h : IsCell B t cs u w) (hb : Below w.heap.size w w') : IsCell B t cs u w' := by
  obtain ⟨g, e, hB, h⟩ := h
  refine ⟨g, e, hB, ?_⟩
  rw [hb.block g (by
    rcases Nat.lt_or_ge g w.heap.size with h' | h'
    · exact h'
    · rw [Array.getElem?_eq_none h'] at h; cases h)]
  exact h
theorem IsCell.new_ne {B : Nat} {t : TypeId} {cs : Array Value} {u : Value} {w : World} (h : IsCell B t cs u w) : Value.pointer (some ⟨w.heap.size, 0, none⟩) ≠ u := by
  obtain ⟨g, rfl, _, h⟩ := h
  intro e
  have : g = w.heap.size := by cases e; rfl
  subst this
  simp at h
end
section
variable {P : Program} {ops : Array Oper} {Q : Exit → Act → World → Prop} {a : Act} {w1 : World}
/-- What is left are stores of whole variables, into blocks unlike one another. -/
theorem tail_stores (T U : List Nat) (g : Nat → Nat) (cs old : Nat → Array Value) (tt : Nat → TypeId) (B : Nat)
    (hT : ∀ k ∈ T, (∀ j ∈ dp ops k, j < k) ∧ ∃ o ty x y, ops[k]? = some o ∧ o.guard = none ∧ o.dst = none ∧ o.op = .store ty x y ∧ a.eval x = .pointer (some ⟨g k, 0, none⟩) ∧ a.eval y = .agg (cs k) ∧ (P.info? ty).map (·.size) = some (cs k).size ∧ (cs k).size = (old k).size ∧ ∀ u ∈ (cs k).toList, u.oneCell' = true)
    (hg : ∀ k ∈ T, ∀ l ∈ T, k ≠ l → g k ≠ g l) (h0 : ∀ k ∈ T, w1.heap[g k]? = some (.cells (old k) (tt k) (0, 0))) (hB : ∀ k ∈ T, B ≤ g k) (hU : ∀ i, i < ops.size → i ∉ T → i ∈ U) (hTU : ∀ k ∈ T, k ∉ U)
    (hend : ∀ w, Below B w1 w → (∀ k ∈ T, w.heap[g k]? = some (.cells (cs k) (tt k) (0, 0))) → Q .normal a w) (fuel : Nat) (hfuel : cnt (List.range ops.size) (lst ops U) ≤ fuel) : wpAny P .any ops Q fuel (lst ops U) a w1 := by
  have main : ∀ (fuel : Nat) (listed : Array Bool) (w : World), listed.size = ops.size → (∀ i, i < ops.size → i ∉ T → listed.getD i false = true) → Below B w1 w → (∀ k ∈ T, listed.getD k false = true → w.heap[g k]? = some (.cells (cs k) (tt k) (0, 0))) →
      (∀ k ∈ T, listed.getD k false = false → w.heap[g k]? = some (.cells (old k) (tt k) (0, 0))) → cnt (List.range ops.size) listed ≤ fuel → wpAny P .any ops Q fuel listed a w := by
    intro fuel
    induction fuel with
    | zero =>
      intro listed w hsz hoth hb hdone htodo hf
      have hall : ∀ i, i < ops.size → listed.getD i false = true := fun i hi => by
        cases hl : listed.getD i false with
        | true => rfl
        | false =>
          have := (cnt_set (List.range ops.size) listed i).2 (List.mem_range.2 hi) (by omega) hl
          omega
      refine ⟨List.eq_nil_iff_forall_not_mem.2 fun i hi => ?_, hend w hb fun k hk => ?_⟩
      · obtain ⟨h1, o, ho, _⟩ := mem_ready.1 hi
        have his := (Array.getElem?_eq_some_iff.1 ho).1
        have := hall i his
        simp [show i < listed.size by omega] at h1 this
        rw [h1] at this
        cases this
      · obtain ⟨_, o, _, _, _, ho, _⟩ := hT k hk
        exact hdone k hk (hall k (Array.getElem?_eq_some_iff.1 ho).1)
    | succ fuel ih =>
      intro listed w hsz hoth hb hdone htodo hf
      refine ⟨fun hr => hend w hb fun k hk => ?_, fun i hi => ?_⟩
      · have hall : ∀ i, i < ops.size → listed.getD i false = true := fun i => by
          induction i using Nat.strongRecOn with
          | ind i ih2 =>
            intro his
            by_cases hiT : i ∈ T
            · cases hl : listed.getD i false with
              | true => rfl
              | false =>
                exfalso
                obtain ⟨hdp, o, _, _, _, ho, _⟩ := hT i hiT
                have : i ∈ Region.ready .any ops listed := mem_ready.2 ⟨by
                  simp [show i < listed.size by omega] at hl ⊢
                  exact hl, o, ho, fun e he hbd => by
                    have hj : e.on ∈ dp ops i := (dp_of ho _).2 ⟨e, he, hbd, rfl⟩
                    have := hdp _ hj
                    exact ih2 _ this (by omega)⟩
                rw [hr] at this
                cases this
            · exact hoth i his hiT
        obtain ⟨_, o, _, _, _, ho, _⟩ := hT k hk
        exact hdone k hk (hall k (Array.getElem?_eq_some_iff.1 ho).1)
      · obtain ⟨h1, o, ho, _⟩ := mem_ready.1 hi
        have his := (Array.getElem?_eq_some_iff.1 ho).1
        have hunf : listed.getD i false = false := by
          simp [show i < listed.size by omega] at h1 ⊢
          exact h1
        have hiT : i ∈ T := Classical.byContradiction fun h => by
          rw [hoth i his h] at hunf; cases hunf
        obtain ⟨_, o', ty, x, y, ho', hgd, hds, hop, hx, hy, hif, hcs, h1c⟩ := hT i hiT
        rw [ho] at ho'
        cases ho'
        have hold := htodo i hiT hunf
        have hc := (cnt_set (List.range ops.size) listed i).2 (List.mem_range.2 his) (by omega) hunf
        have hset : ∀ j, j ≠ i → (listed.setIfInBounds i true).getD j false = listed.getD j false := fun j hj => getD_set_ne false (Ne.symm hj)
        have hseti : (listed.setIfInBounds i true).getD i false = true := by simp [show i < listed.size by omega]
        unfold wpOp
        rw [ho]
        simp only
        rw [if_pos (wanted_none hgd)]
        refine .inl (wp_store_z ty x y hop (g i) hx (cs i) hy (old i) (tt i) hold hcs hif h1c ?_)
        rw [hds]
        refine ih _ _ (by rw [Array.size_setIfInBounds]; exact hsz) (fun j hj hjT => ?_) (below_setRow hb (hB i hiT) _) (fun k hk hl => ?_) (fun k hk hl => ?_) (by omega)
        · by_cases hji : j = i
          · subst hji; exact hseti
          · rw [hset j hji]; exact hoth j hj hjT
        · by_cases hki : k = i
          · subst hki; exact setRow_heap _ _ _ _ _ _ hold
          · rw [hset k hki] at hl
            rw [setRow_other _ _ _ _ (hg k hk i hiT hki)]
            exact hdone k hk hl
        · by_cases hki : k = i
          · subst hki; rw [hseti] at hl; cases hl
          · rw [hset k hki] at hl
            rw [setRow_other _ _ _ _ (hg k hk i hiT hki)]
            exact htodo k hk hl
  have hlst : ∀ i, i < ops.size → (lst ops U).getD i false = U.contains i := fun i hi => by simp [lst, hi]
  refine main fuel _ w1 (by simp [lst]) (fun i hi hiT => ?_) (Below.refl _ _) (fun k hk hl => ?_) (fun k hk _ => h0 k hk) hfuel
  · rw [hlst i hi]
    simpa using hU i hi hiT
  · obtain ⟨_, o, _, _, _, ho, _⟩ := hT k hk
    rw [hlst k (Array.getElem?_eq_some_iff.1 ho).1] at hl
    exact absurd (by simpa using hl) (hTU k hk)
/-- One operation is left. -/
theorem tail_one {U : List Nat} (k : Nat) (f : Array Edge → Oper) (af0 : Array Edge) (ho0 : ops[k]? = some (f af0)) (hgd0 : ∀ af, (f af).guard = none) (hk : ∀ j ∈ dp ops k, j ∈ U) (hsz : ∀ j ∈ U, j < ops.size) (hU : ∀ i, i < ops.size → i ≠ k → i ∈ U) (hkU : k ∉ U) (post : Act → World → Prop)
    (hop0 : ∀ (af : Array Edge) (K : Act → World → Prop), (∀ a' w', post a' w' → K a' w') → (f af).wp P a w1 K Q) (hend : ∀ a' w', post a' w' → Q .normal a' w') (fuel : Nat) (hfuel : cnt (List.range ops.size) (lst ops U) ≤ fuel) : wpAny P .any ops Q fuel (lst ops U) a w1 := by
  obtain ⟨o, ho, hgd, hop⟩ : ∃ o, ops[k]? = some o ∧ o.guard = none ∧ ∀ K : Act → World → Prop, (∀ a' w', post a' w' → K a' w') → o.wp P a w1 K Q := ⟨f af0, ho0, hgd0 af0, hop0 af0⟩
  have hlst : ∀ i, i < ops.size → (lst ops U).getD i false = U.contains i := fun i hi => by simp [lst, hi]
  have hks := (Array.getElem?_eq_some_iff.1 ho).1
  have hls : (lst ops U).size = ops.size := by simp [lst]
  have hunf : (lst ops U).getD k false = false := by rw [hlst k hks]; simpa using hkU
  have hc := (cnt_set (List.range ops.size) (lst ops U) k).2 (List.mem_range.2 hks) (by omega) hunf
  have hkr : k ∈ Region.ready .any ops (lst ops U) := mem_ready.2 ⟨by
    simp [show k < (lst ops U).size by omega] at hunf ⊢
    exact hunf, o, ho, fun e he hb => by
      have hj := hk _ ((dp_of ho _).2 ⟨e, he, hb, rfl⟩)
      rw [hlst _ (hsz _ hj)]
      simpa using hj⟩
  have hr0 : Region.ready .any ops ((lst ops U).setIfInBounds k true) = [] := by
    refine List.eq_nil_iff_forall_not_mem.2 fun i hi => ?_
    obtain ⟨h0, oi, hoi, _⟩ := mem_ready.1 hi
    have his := (Array.getElem?_eq_some_iff.1 hoi).1
    have hg : ((lst ops U).setIfInBounds k true).getD i false = true := by
      by_cases hik : i = k
      · subst hik; simp [show i < (lst ops U).size by omega]
      · rw [getD_set_ne false (Ne.symm hik), hlst i his]
        simpa using hU i his hik
    simp [show i < (lst ops U).size by omega] at h0 hg
    rw [hg] at h0
    cases h0
  cases fuel with
  | zero => omega
  | succ fuel =>
    refine ⟨fun hr => (by rw [hr] at hkr; cases hkr), fun i hi => ?_⟩
    obtain rfl : i = k := Classical.byContradiction fun hne => by
      obtain ⟨h0, oi, hoi, _⟩ := mem_ready.1 hi
      have his := (Array.getElem?_eq_some_iff.1 hoi).1
      have hg : (lst ops U).getD i false = true := by
        rw [hlst i his]
        simpa using hU i his hne
      simp [show i < (lst ops U).size by omega] at h0 hg
      rw [hg] at h0
      cases h0
    unfold wpOp
    rw [ho]
    simp only
    rw [if_pos (wanted_none hgd)]
    refine .inl (hop _ fun a' w' hp => ?_)
    cases fuel with
    | zero => exact ⟨hr0, hend _ _ hp⟩
    | succ fuel => exact ⟨fun _ => hend _ _ hp, fun j hj => by rw [hr0] at hj; cases hj⟩
end
end Reg
end Go.Proofs.Ytcdnbidenaljlaa
