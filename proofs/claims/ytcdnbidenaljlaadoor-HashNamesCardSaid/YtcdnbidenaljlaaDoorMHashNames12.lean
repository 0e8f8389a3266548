/- Texts of this proof, laid into one: RegS, RegT, RegC. -/
import Derived.Test.YtcdnbidenaljlaaDoorMHashNames2
import Derived.Great.Walk
import Derived.Orders
/- Drawn regions: operations that are not wanted, slice literals, whole variables that are loaded, made and, at the end, stored. No program in sight. -/
namespace Go.Proofs.YtcdnbidenaljlaaDoor
open Go.RowKit

/-- A whole variable is stored into its block. -/
theorem wp_store_z {P : Program} {o : Oper} {a : Act} {w : World} {K : Act → World → Prop} {Q : Exit → Act → World → Prop} (ty : TypeId) (x y : Operand) (ho : o.op = .store ty x y) (g : Nat) (hx : a.eval x = .pointer (some ⟨g, 0, none⟩)) (cs : Array Value) (hy : a.eval y = .agg cs)
    (cur : Array Value) (t : TypeId) (hg : w.heap[g]? = some (.cells cur t (0, 0))) (hs : cs.size = cur.size) (hi : (P.info? ty).map (·.size) = some cs.size) (h1 : ∀ u ∈ cs.toList, u.oneCell' = true)
    (hK : K (a.put o.dst undef) (w.setRow g cs)) : o.wp P a w K Q := by
  have hrun : (storeCells ⟨g, 0, none⟩ cs.toList 0).run P w = .ok () (w.setRow g cs) := by
    have := run_storeCells_at P g 0 t cs.toList 0 cur w hg (by simp [hs]) h1
    rw [this]
    congr 2
    apply Array.ext'
    simp [hs]
  cases hq : P.info? ty with
  | none => simp [hq] at hi
  | some i =>
    have hsz : cs.size = i.size := by simp [hq] at hi; omega
    unfold Oper.wp execOp
    simp only [ho, hx, hy, Instr.storeAt, Instr.sureAddr, Sem.run_bind, Sem.run_pure, Result.andThen_ok, storeVar, sizeOf, typeInfo, hq]
    simp [hq, Value.cells, hsz, hrun]
    exact hK
/-- 'var x T'. -/
theorem wp_alloc_z {P : Program} {o : Oper} {a : Act} {w : World} {K : Act → World → Prop} {Q : Exit → Act → World → Prop} (ty : TypeId) (ho : o.op = .alloc ty) (Z : Array Value) (hz : (P.info? ty).bind (fun i => i.zero.map Value.cells) = some Z)
    (h : K (a.put o.dst (.pointer (some ⟨w.heap.size, 0, none⟩))) (w.alloc (.cells Z ty))) : o.wp P a w K Q := by
  cases hq : P.info? ty with
  | none => simp [hq] at hz
  | some i =>
    cases hq2 : i.zero with
    | none => simp [hq, hq2] at hz
    | some v =>
      have hv : v.cells = Z := by simpa [hq, hq2] using hz
      unfold Oper.wp execOp
      simp only [ho, Instr.alloc, zeroValue, typeInfo, Sem.run_bind, Sem.run_pure, hq]
      simp [hq, hq2, newVar, newRow, hv]
      exact h
/-- One number is stored. -/
theorem wp_store_one {P : Program} {o : Oper} {a : Act} {w : World} {K : Act → World → Prop} {Q : Exit → Act → World → Prop} (ty : TypeId) (x y : Operand) (ho : o.op = .store ty x y) (p : Addr) (hx : a.eval x = .pointer (some p)) (kk : IntKind) (n : Int) (hy : a.eval y = .int kk n) (old : Value)
    (h1 : w.cell? p = some old) (h2 : w.frozen? p = false) (hs : (P.info? ty).map (·.size) = some 1) (hd : o.dst = none) (hK : K a (w.setCell p (.int kk n))) : o.wp P a w K Q := by
  cases hq : P.info? ty with
  | none => simp [hq] at hs
  | some i =>
    have hsz : i.size = 1 := by simpa [hq] using hs
    unfold Oper.wp execOp
    simp only [ho, hx, hy, Instr.storeAt, Instr.sureAddr, Sem.run_bind, Sem.run_pure, Result.andThen_ok, storeVar, sizeOf, typeInfo, hq]
    simp [hq, hsz, Value.cells, storeCells, go_sem, h1, h2, addr_add_zero, Oper.upon, hd, Act.put]
    exact hK
namespace Reg
section
variable {P : Program} {ops : Array Oper} {a0 : Act} {v : Nat → Value} {L : List Nat} {w0 : World} {R : Nat → Value → World → Prop} {D : Nat → Nat → Value → Value → Prop}
theorem wanted_not {o : Oper} {g t : Nat} {b : Bool} {G : Act} (h : o.guard = some (g, b)) (hd : dst ops g = some t) (he : G.eval (.tmp t) = .bool (!b)) : Region.wanted o (yielded ops G.tmps) = false := by
  unfold Region.wanted
  rw [h]
  simp only
  unfold yielded
  unfold dst at hd
  rw [hd]
  simp only [Act.eval, Array.getD_eq_getD_getElem?, Option.bind_some] at he ⊢
  cases ht : G.tmps[t]? with
  | none => rw [ht] at he; cases he
  | some x =>
    rw [ht] at he
    simp only [Option.getD_some] at he
    rw [he]
    cases b <;> simp
/-- An operation that is not wanted. -/
theorem op_no {i : Nat} {o : Oper} (ho : ops[i]? = some o) (L : List Nat) (hdp : dp ops i = L)
    (h : ∀ (v : Nat → Value) (W : World), Below w0.heap.size w0 W → (∀ j ∈ L, R j (v j) W) → Region.wanted o (yielded ops (gfr ops a0 v L).tmps) = false ∧ R i undef W ∧ ∀ j x, j ≠ i → R j x W → D i j undef x ∧ D j i x undef) : OpOK P ops a0 w0 R D i := fun v W hb hd o' ho' K hK => by
  rw [ho] at ho'
  cases ho'
  rw [hdp] at hd hK ⊢
  obtain ⟨hw, hg, h3⟩ := h v W hb hd
  rw [if_neg (by rw [hw]; decide)]
  exact hK undef W (Below.refl _ _) hg h3
theorem op_ok2 {i : Nat} (f : Array Edge → Oper) (af0 : Array Edge) (ho : ops[i]? = some (f af0)) (L : List Nat) (hdp : dp ops i = L)
    (h : ∀ (af : Array Edge) (v : Nat → Value) (W : World), Below w0.heap.size w0 W → (∀ j ∈ L, R j (v j) W) → Region.wanted (f af) (yielded ops (gfr ops a0 v L).tmps) = true ∧ OpGo P (f af) (gfr ops a0 v L) W (fun u w' => Below W.heap.size W w' ∧ R i u w')) : OpOK P ops a0 w0 R (fun _ _ _ _ => True) i := op_ok ho L hdp (h af0)
theorem op_okD2 {i : Nat} (f : Array Edge → Oper) (af0 : Array Edge) (ho : ops[i]? = some (f af0)) (L : List Nat) (hdp : dp ops i = L)
    (h : ∀ (af : Array Edge) (v : Nat → Value) (W : World), Below w0.heap.size w0 W → (∀ j ∈ L, R j (v j) W) → Region.wanted (f af) (yielded ops (gfr ops a0 v L).tmps) = true ∧ OpGo P (f af) (gfr ops a0 v L) W (fun u w' => Below W.heap.size W w' ∧ R i u w' ∧ ∀ j x, j ≠ i → R j x W → D i j u x ∧ D j i x u)) : OpOK P ops a0 w0 R D i := op_okD ho L hdp (h af0)
theorem op_no2 {i : Nat} (f : Array Edge → Oper) (af0 : Array Edge) (ho : ops[i]? = some (f af0)) (L : List Nat) (hdp : dp ops i = L)
    (h : ∀ (af : Array Edge) (v : Nat → Value) (W : World), Below w0.heap.size w0 W → (∀ j ∈ L, R j (v j) W) → Region.wanted (f af) (yielded ops (gfr ops a0 v L).tmps) = false ∧ R i undef W ∧ ∀ j x, j ≠ i → R j x W → D i j undef x ∧ D j i x undef) : OpOK P ops a0 w0 R D i := op_no ho L hdp (h af0)
theorem go_build {o : Oper} {G : Act} {W : World} {post : Value → World → Prop} (t e : TypeId) (len : Nat) (parts : Array (Nat × Operand)) (ho : o.op = .buildSlice t len parts) (hu : P.underlying t = some (.slice e)) (cells : Array Value)
    (hf : P.builtSlice e len (parts.map fun (i, x) => (i, G.eval x)).toList = some cells) (hp : post (.slice (some ⟨W.heap.size, 0, none⟩) len len) (W.alloc (.cells cells e))) : OpGo P o G W post := fun K hK => by
  unfold Program.builtSlice at hf
  cases hie : P.info? e with
  | none => simp [hie] at hf
  | some ie =>
    simp only [hie] at hf
    cases hz : ie.zero with
    | none => simp [hz] at hf
    | some z =>
      simp only [hz] at hf
      by_cases hc : len * ie.size > 2 ^ 24 ∨ len * ie.size = 0
      · simp [hc] at hf
      · rw [if_neg hc] at hf
        exact wp_buildSlice t e len parts ho cells ie z hu hie hz (fun h' => hc (Or.inl h')) (fun h' => hc (Or.inr h')) hf (hK _ _ hp)
theorem go_alloc {o : Oper} {G : Act} {W : World} {post : Value → World → Prop} (ty : TypeId) (ho : o.op = .alloc ty) (Z : Array Value) (hz : (P.info? ty).bind (fun i => i.zero.map Value.cells) = some Z)
    (hp : post (.pointer (some ⟨W.heap.size, 0, none⟩)) (W.alloc (.cells Z ty))) : OpGo P o G W post := fun K hK => wp_alloc_z ty ho Z hz (hK _ _ hp)
theorem look_none {L : List Nat} {ts : List Nat} {t : Nat} (hl : (L.map fun j => dst ops j) = ts.map some) (ht : ts.contains t = false) : look ops L t = none := by
  unfold look
  rw [List.find?_eq_none]
  intro j hj
  have hm : dst ops j ∈ L.map fun j => dst ops j := List.mem_map.2 ⟨j, hj, rfl⟩
  rw [hl] at hm
  simp at hm
  obtain ⟨x, hx, he⟩ := hm
  rw [← he]
  simp only [beq_iff_eq, Option.some.injEq]
  rintro rfl
  simp [hx] at ht
theorem dp_lt {k : Nat} (h : (dp ops k).all (fun j => decide (j < k)) = true) : ∀ j ∈ dp ops k, j < k := fun j hj => by simpa using List.all_eq_true.1 h j hj
/-- A variable, made by the region. -/
def IsCell (B : Nat) (t : TypeId) (cs : Array Value) (u : Value) (w : World) : Prop := ∃ g, u = .pointer (some ⟨g, 0, none⟩) ∧ B ≤ g ∧ w.heap[g]? = some (.cells cs t (0, 0))
theorem IsCell.below {B : Nat} {t : TypeId} {cs : Array Value} {u : Value} {w w' : World} (h : IsCell B t cs u w) (hb : Below w.heap.size w w') : IsCell B t cs u w' := by
  obtain ⟨g, e, hB, h⟩ := h
  refine ⟨g, e, hB, ?_⟩
  rw [hb.block g (by
    rcases Nat.lt_or_ge g w.heap.size with h' | h'
    · exact h'
    · rw [Array.getElem?_eq_none h'] at h; cases h)]
  exact h
theorem IsCell.new_ne {B : Nat} {t : TypeId} {cs : Array Value} {u : Value} {w : World} (h : IsCell B t cs u w) : Value.pointer (some ⟨w.heap.size, 0, none⟩) ≠ u := by
  obtain ⟨g, rfl, _, h⟩ := h
  intro e
  have : g = w.heap.size := by cases e; rfl
  subst this
  simp at h
end
section
variable {P : Program} {ops : Array Oper} {Q : Exit → Act → World → Prop} {a : Act} {w1 : World}
/-- What is left are stores of whole variables, into blocks unlike one another. -/
theorem tail_stores (T U : List Nat) (g : Nat → Nat) (cs old : Nat → Array Value) (tt : Nat → TypeId) (B : Nat)
    (hT : ∀ k ∈ T, (∀ j ∈ dp ops k, j < k) ∧ ∃ o ty x y, ops[k]? = some o ∧ o.guard = none ∧ o.dst = none ∧ o.op = .store ty x y ∧ a.eval x = .pointer (some ⟨g k, 0, none⟩) ∧ a.eval y = .agg (cs k) ∧ (P.info? ty).map (·.size) = some (cs k).size ∧ (cs k).size = (old k).size ∧ ∀ u ∈ (cs k).toList, u.oneCell' = true)
    (hg : ∀ k ∈ T, ∀ l ∈ T, k ≠ l → g k ≠ g l) (h0 : ∀ k ∈ T, w1.heap[g k]? = some (.cells (old k) (tt k) (0, 0))) (hB : ∀ k ∈ T, B ≤ g k) (hU : ∀ i, i < ops.size → i ∉ T → i ∈ U) (hTU : ∀ k ∈ T, k ∉ U)
    (hend : ∀ w, Below B w1 w → (∀ k ∈ T, w.heap[g k]? = some (.cells (cs k) (tt k) (0, 0))) → Q .normal a w) (fuel : Nat) (hfuel : cnt (List.range ops.size) (lst ops U) ≤ fuel) : wpAny P .any ops Q fuel (lst ops U) a w1 := by
  have main : ∀ (fuel : Nat) (listed : Array Bool) (w : World), listed.size = ops.size → (∀ i, i < ops.size → i ∉ T → listed.getD i false = true) → Below B w1 w → (∀ k ∈ T, listed.getD k false = true → w.heap[g k]? = some (.cells (cs k) (tt k) (0, 0))) →
      (∀ k ∈ T, listed.getD k false = false → w.heap[g k]? = some (.cells (old k) (tt k) (0, 0))) → cnt (List.range ops.size) listed ≤ fuel → wpAny P .any ops Q fuel listed a w := by
    intro fuel
    induction fuel with
    | zero =>
      intro listed w hsz hoth hb hdone htodo hf
      have hall : ∀ i, i < ops.size → listed.getD i false = true := fun i hi => by
        cases hl : listed.getD i false with
        | true => rfl
        | false =>
          have := (cnt_set (List.range ops.size) listed i).2 (List.mem_range.2 hi) (by omega) hl
          omega
      refine ⟨List.eq_nil_iff_forall_not_mem.2 fun i hi => ?_, hend w hb fun k hk => ?_⟩
      · obtain ⟨h1, o, ho, _⟩ := mem_ready.1 hi
        have his := (Array.getElem?_eq_some_iff.1 ho).1
        have := hall i his
        simp [show i < listed.size by omega] at h1 this
        rw [h1] at this
        cases this
      · obtain ⟨_, o, _, _, _, ho, _⟩ := hT k hk
        exact hdone k hk (hall k (Array.getElem?_eq_some_iff.1 ho).1)
    | succ fuel ih =>
      intro listed w hsz hoth hb hdone htodo hf
      refine ⟨fun hr => hend w hb fun k hk => ?_, fun i hi => ?_⟩
      · have hall : ∀ i, i < ops.size → listed.getD i false = true := fun i => by
          induction i using Nat.strongRecOn with
          | ind i ih2 =>
            intro his
            by_cases hiT : i ∈ T
            · cases hl : listed.getD i false with
              | true => rfl
              | false =>
                exfalso
                obtain ⟨hdp, o, _, _, _, ho, _⟩ := hT i hiT
                have : i ∈ Region.ready .any ops listed := mem_ready.2 ⟨by
                  simp [show i < listed.size by omega] at hl ⊢
                  exact hl, o, ho, fun e he hbd => by
                    have hj : e.on ∈ dp ops i := (dp_of ho _).2 ⟨e, he, hbd, rfl⟩
                    have := hdp _ hj
                    exact ih2 _ this (by omega)⟩
                rw [hr] at this
                cases this
            · exact hoth i his hiT
        obtain ⟨_, o, _, _, _, ho, _⟩ := hT k hk
        exact hdone k hk (hall k (Array.getElem?_eq_some_iff.1 ho).1)
      · obtain ⟨h1, o, ho, _⟩ := mem_ready.1 hi
        have his := (Array.getElem?_eq_some_iff.1 ho).1
        have hunf : listed.getD i false = false := by
          simp [show i < listed.size by omega] at h1 ⊢
          exact h1
        have hiT : i ∈ T := Classical.byContradiction fun h => by
          rw [hoth i his h] at hunf; cases hunf
        obtain ⟨_, o', ty, x, y, ho', hgd, hds, hop, hx, hy, hif, hcs, h1c⟩ := hT i hiT
        rw [ho] at ho'
        cases ho'
        have hold := htodo i hiT hunf
        have hc := (cnt_set (List.range ops.size) listed i).2 (List.mem_range.2 his) (by omega) hunf
        have hset : ∀ j, j ≠ i → (listed.setIfInBounds i true).getD j false = listed.getD j false := fun j hj => getD_set_ne false (Ne.symm hj)
        have hseti : (listed.setIfInBounds i true).getD i false = true := by simp [show i < listed.size by omega]
        unfold wpOp
        rw [ho]
        simp only
        rw [if_pos (wanted_none hgd)]
        refine .inl (wp_store_z ty x y hop (g i) hx (cs i) hy (old i) (tt i) hold hcs hif h1c ?_)
        rw [hds]
        refine ih _ _ (by rw [Array.size_setIfInBounds]; exact hsz) (fun j hj hjT => ?_) (below_setRow hb (hB i hiT) _) (fun k hk hl => ?_) (fun k hk hl => ?_) (by omega)
        · by_cases hji : j = i
          · subst hji; exact hseti
          · rw [hset j hji]; exact hoth j hj hjT
        · by_cases hki : k = i
          · subst hki; exact setRow_heap _ _ _ _ _ _ hold
          · rw [hset k hki] at hl
            rw [setRow_other _ _ _ _ (hg k hk i hiT hki)]
            exact hdone k hk hl
        · by_cases hki : k = i
          · subst hki; rw [hseti] at hl; cases hl
          · rw [hset k hki] at hl
            rw [setRow_other _ _ _ _ (hg k hk i hiT hki)]
            exact htodo k hk hl
  have hlst : ∀ i, i < ops.size → (lst ops U).getD i false = U.contains i := fun i hi => by simp [lst, hi]
  refine main fuel _ w1 (by simp [lst]) (fun i hi hiT => ?_) (Below.refl _ _) (fun k hk hl => ?_) (fun k hk _ => h0 k hk) hfuel
  · rw [hlst i hi]
    simpa using hU i hi hiT
  · obtain ⟨_, o, _, _, _, ho, _⟩ := hT k hk
    rw [hlst k (Array.getElem?_eq_some_iff.1 ho).1] at hl
    exact absurd (by simpa using hl) (hTU k hk)
/-- One operation is left. -/
theorem tail_one {U : List Nat} (k : Nat) (f : Array Edge → Oper) (af0 : Array Edge) (ho0 : ops[k]? = some (f af0)) (hgd0 : ∀ af, (f af).guard = none) (hk : ∀ j ∈ dp ops k, j ∈ U) (hsz : ∀ j ∈ U, j < ops.size) (hU : ∀ i, i < ops.size → i ≠ k → i ∈ U) (hkU : k ∉ U) (post : Act → World → Prop)
    (hop0 : ∀ (af : Array Edge) (K : Act → World → Prop), (∀ a' w', post a' w' → K a' w') → (f af).wp P a w1 K Q) (hend : ∀ a' w', post a' w' → Q .normal a' w') (fuel : Nat) (hfuel : cnt (List.range ops.size) (lst ops U) ≤ fuel) : wpAny P .any ops Q fuel (lst ops U) a w1 := by
  obtain ⟨o, ho, hgd, hop⟩ : ∃ o, ops[k]? = some o ∧ o.guard = none ∧ ∀ K : Act → World → Prop, (∀ a' w', post a' w' → K a' w') → o.wp P a w1 K Q := ⟨f af0, ho0, hgd0 af0, hop0 af0⟩
  have hlst : ∀ i, i < ops.size → (lst ops U).getD i false = U.contains i := fun i hi => by simp [lst, hi]
  have hks := (Array.getElem?_eq_some_iff.1 ho).1
  have hls : (lst ops U).size = ops.size := by simp [lst]
  have hunf : (lst ops U).getD k false = false := by rw [hlst k hks]; simpa using hkU
  have hc := (cnt_set (List.range ops.size) (lst ops U) k).2 (List.mem_range.2 hks) (by omega) hunf
  have hkr : k ∈ Region.ready .any ops (lst ops U) := mem_ready.2 ⟨by
    simp [show k < (lst ops U).size by omega] at hunf ⊢
    exact hunf, o, ho, fun e he hb => by
      have hj := hk _ ((dp_of ho _).2 ⟨e, he, hb, rfl⟩)
      rw [hlst _ (hsz _ hj)]
      simpa using hj⟩
  have hr0 : Region.ready .any ops ((lst ops U).setIfInBounds k true) = [] := by
    refine List.eq_nil_iff_forall_not_mem.2 fun i hi => ?_
    obtain ⟨h0, oi, hoi, _⟩ := mem_ready.1 hi
    have his := (Array.getElem?_eq_some_iff.1 hoi).1
    have hg : ((lst ops U).setIfInBounds k true).getD i false = true := by
      by_cases hik : i = k
      · subst hik; simp [show i < (lst ops U).size by omega]
      · rw [getD_set_ne false (Ne.symm hik), hlst i his]
        simpa using hU i his hik
    simp [show i < (lst ops U).size by omega] at h0 hg
    rw [hg] at h0
    cases h0
  cases fuel with
  | zero => omega
  | succ fuel =>
    refine ⟨fun hr => (by rw [hr] at hkr; cases hkr), fun i hi => ?_⟩
    obtain rfl : i = k := Classical.byContradiction fun hne => by
      obtain ⟨h0, oi, hoi, _⟩ := mem_ready.1 hi
      have his := (Array.getElem?_eq_some_iff.1 hoi).1
      have hg : (lst ops U).getD i false = true := by
        rw [hlst i his]
        simpa using hU i his hne
      simp [show i < (lst ops U).size by omega] at h0 hg
      rw [hg] at h0
      cases h0
    unfold wpOp
    rw [ho]
    simp only
    rw [if_pos (wanted_none hgd)]
    refine .inl (hop _ fun a' w' hp => ?_)
    cases fuel with
    | zero => exact ⟨hr0, hend _ _ hp⟩
    | succ fuel => exact ⟨fun _ => hend _ _ hp, fun j hj => by rw [hr0] at hj; cases hj⟩
end
end Reg
end Go.Proofs.YtcdnbidenaljlaaDoor

/- Regions that draw their order, in parts: what is through (B) lies behind, one part (U) is done in whatever order, each operation by one obligation; or one operation alone, which may change what it likes. No program in sight. -/
namespace Go.Proofs.YtcdnbidenaljlaaDoor
open Go.RowKit

namespace Reg
/-- What an operation waits for, but for what is through. -/
def dq (ops : Array Oper) (B : List Nat) (i : Nat) : List Nat := (dp ops i).filter fun j => !B.contains j
theorem dq_mem {ops : Array Oper} {B : List Nat} {i j : Nat} : j ∈ dq ops B i ↔ j ∈ dp ops i ∧ j ∉ B := by
  unfold dq
  rw [List.mem_filter]
  simp
def chkB (ops : Array Oper) (n : Nat) (B U : List Nat) : Bool :=
  (B.all fun i => (dp ops i).all fun j => B.contains j) &&
  (U.all fun i => match ops[i]? with
    | none => false
    | some o => dstOk n o && notSel o && !B.contains i && (dp ops i).all (fun j => B.contains j || (U.contains j && decide (j < i))) &&
        (o.looksAt ops).all fun t => U.all fun j => !(dst ops j == some t) || (dq ops B i).contains j || ((anc ops ops.size).getD j 0).testBit i) &&
  (U.all fun i => U.all fun j => i == j || !(dst ops i == dst ops j)) &&
  (List.range ops.size).all fun k => B.contains k || U.contains k || U.all fun u => ((anc ops ops.size).getD k 0).testBit u
def OpOKB (P : Program) (ops : Array Oper) (B : List Nat) (a0 : Act) (w0 : World) (R : Nat → Value → World → Prop) (i : Nat) : Prop :=
  ∀ (v : Nat → Value) (w : World), Below w0.heap.size w0 w → (∀ j ∈ dq ops B i, R j (v j) w) → ∀ o, ops[i]? = some o →
    ∀ K : Act → World → Prop, (∀ u w', Below w.heap.size w w' → R i u w' → K ((gfr ops a0 v (dq ops B i)).put o.dst u) w') →
      if Region.wanted o (yielded ops (gfr ops a0 v (dq ops B i)).tmps) = true then o.wp P (gfr ops a0 v (dq ops B i)) w K (fun _ _ _ => False) else K ((gfr ops a0 v (dq ops B i)).put o.dst undef) w
structure JB (ops : Array Oper) (B U : List Nat) (a0 : Act) (w0 : World) (R : Nat → Value → World → Prop) (listed : Array Bool) (a : Act) (w : World) : Prop where
  sz : listed.size = ops.size
  down : ∀ i, listed.getD i false = true → ∀ j ∈ dp ops i, listed.getD j false = true
  inU : ∀ i, listed.getD i false = true → i ∈ B ∨ i ∈ U
  hasB : ∀ i ∈ B, i < ops.size → listed.getD i false = true
  dfr : a.defers = a0.defers
  len : a.tmps.size = a0.tmps.size
  old : ∀ t, (∀ i ∈ U, listed.getD i false = true → dst ops i ≠ some t) → a.tmps[t]? = a0.tmps[t]?
  rel : ∀ i ∈ U, listed.getD i false = true → R i (val ops a i) w
  s : Below w0.heap.size w0 w

section
variable {P : Program} {ops : Array Oper} {Q : Exit → Act → World → Prop} {B U : List Nat} {a0 : Act} {w0 : World} {R : Nat → Value → World → Prop}
theorem chkB_spec {n : Nat} (h : chkB ops n B U = true) :
    (∀ i ∈ U, ∃ o d, ops[i]? = some o ∧ o.dst = some d ∧ d < n ∧ notSel o = true ∧ i ∉ B ∧ (∀ j ∈ dp ops i, j ∈ B ∨ (j ∈ U ∧ j < i)) ∧ ∀ t ∈ o.looksAt ops, ∀ j ∈ U, dst ops j = some t → j ∈ dq ops B i ∨ ((anc ops ops.size).getD j 0).testBit i = true) ∧
    (∀ i ∈ U, ∀ j ∈ U, i ≠ j → dst ops i ≠ dst ops j) ∧
    (∀ k, k < ops.size → k ∉ B → k ∉ U → ∀ u ∈ U, ((anc ops ops.size).getD k 0).testBit u = true) ∧ (∀ i ∈ B, ∀ j ∈ dp ops i, j ∈ B) := by
  unfold chkB at h
  rw [Bool.and_eq_true, Bool.and_eq_true, Bool.and_eq_true, List.all_eq_true, List.all_eq_true, List.all_eq_true, List.all_eq_true] at h
  obtain ⟨⟨⟨h0, h1⟩, h2⟩, h3⟩ := h
  refine ⟨fun i hi => ?_, fun i hi j hj hne he => ?_, fun k hk hnB hn u hu => ?_, fun i hi j hj => ?_⟩
  · have := h1 i hi
    cases ho : ops[i]? with
    | none => rw [ho] at this; cases this
    | some o =>
      rw [ho] at this
      simp only [Bool.and_eq_true, List.all_eq_true] at this
      obtain ⟨⟨⟨⟨g1, g2⟩, gB⟩, g3⟩, g4⟩ := this
      unfold dstOk at g1
      cases hd : o.dst with
      | none => rw [hd] at g1; cases g1
      | some d =>
        rw [hd] at g1
        refine ⟨o, d, rfl, hd, by simpa using g1, g2, by simpa using gB, fun j hj => by simpa using g3 j hj, fun t ht j hj hjt => ?_⟩
        have := g4 t ht j hj
        simp only [Bool.or_eq_true, Bool.not_eq_true', beq_eq_false_iff_ne, ne_eq] at this
        rcases this with (h | h) | h
        · exact absurd hjt h
        · exact .inl (by simpa using h)
        · exact .inr h
  · have := List.all_eq_true.1 (h2 i hi) j hj
    simp only [Bool.or_eq_true, beq_iff_eq, Bool.not_eq_true', beq_eq_false_iff_ne, ne_eq] at this
    exact this.elim hne (fun h => h he)
  · have := h3 k (List.mem_range.2 hk)
    simp only [Bool.or_eq_true, List.all_eq_true] at this
    rcases this with (h | h) | h
    · exact absurd (by simpa using h) hnB
    · exact absurd (by simpa using h) hn
    · exact h u hu
  · have := List.all_eq_true.1 (h0 i hi) j hj
    simpa using this
/-- One step: whichever of U comes up. -/
theorem JB.step {listed : Array Bool} {a : Act} {w : World} (hc : chkB ops a0.tmps.size B U = true) (hst : ∀ i u w w', R i u w → Below w.heap.size w w' → R i u w') (hop : ∀ i ∈ U, OpOKB P ops B a0 w0 R i)
    (h : JB ops B U a0 w0 R listed a w) {i : Nat} (hr : i ∈ Region.ready .any ops listed) (hi : i ∈ U) : wpOp P ops Q i (fun a' w' => JB ops B U a0 w0 R (listed.setIfInBounds i true) a' w') a w := by
  obtain ⟨c1, c2, c3, c4⟩ := chkB_spec hc
  obtain ⟨hun, o, ho, hall⟩ := mem_ready.1 hr
  obtain ⟨o', d, ho', hd, hlt, hsel, hiB, hdU', hlook⟩ := c1 i hi
  have hdU : ∀ j ∈ dq ops B i, j ∈ U := fun j hj => ((hdU' j (dq_mem.1 hj).1).resolve_left (dq_mem.1 hj).2).1
  rw [ho] at ho'
  cases ho'
  have hsz : i < listed.size := by
    rcases Nat.lt_or_ge i listed.size with h' | h'
    · exact h'
    · simp [Array.getElem?_eq_none h'] at hun
  have hunf : listed.getD i false = false := by
    simp [hsz] at hun ⊢
    exact hun
  have hdl : ∀ j ∈ dp ops i, listed.getD j false = true := fun j hj => by
    obtain ⟨e, he, hb, rfl⟩ := (dp_of ho j).1 hj
    exact hall e he hb
  have hsel' : ∀ cs b, o.op ≠ .select cs b := fun cs b e => by unfold notSel at hsel; rw [e] at hsel; cases hsel
  -- the slots that o looks at
  have hsame : ∀ t ∈ o.looksAt ops, a.tmps[t]? = (gfr ops a0 (val ops a) (dq ops B i)).tmps[t]? := fun t ht => by
    by_cases hex : ∃ j ∈ U, dst ops j = some t
    · obtain ⟨j, hj, hjt⟩ := hex
      have huniq : ∀ x ∈ U, dst ops x = some t → x = j := fun x hx hxt => Classical.byContradiction fun hne => c2 x hx j hj hne (by rw [hxt, hjt])
      by_cases hjd : j ∈ dq ops B i
      · obtain ⟨oj, dj, hoj, hdj, hltj, _⟩ := c1 j hj
        have hdj' : dst ops j = some dj := by rw [dst_of hoj, hdj]
        rw [hjt] at hdj'
        cases hdj'
        rw [gfr_in _ j t (fun x hx => huniq x (hdU x hx)) hjd hjt hltj]
        unfold val
        rw [hjt]
        have : t < a.tmps.size := by rw [h.len]; exact hltj
        simp [this]
      · have hb := (hlook t ht j hj hjt).resolve_left hjd
        have hjn : listed.getD j false = false := by
          cases hjl : listed.getD j false with
          | false => rfl
          | true =>
            have hjs : j < ops.size := by
              rcases Nat.lt_or_ge j ops.size with h' | h'
              · exact h'
              · obtain ⟨oj, _, hoj, _⟩ := c1 j hj
                rw [Array.getElem?_eq_none h'] at hoj
                cases hoj
            have := anc_spec (L := fun x => listed.getD x false = true) h.down ops.size j i hjs hjl hb
            rw [hunf] at this
            cases this
        rw [h.old t (fun x hx hxl hxt => by rw [huniq x hx hxt, hjn] at hxl; cases hxl), gfr_out _ t (fun x hx hxt => hjd (huniq x (hdU x hx) hxt ▸ hx))]
    · rw [h.old t (fun x hx _ hxt => hex ⟨x, hx, hxt⟩), gfr_out _ t (fun x hx hxt => hex ⟨x, hdU x hx, hxt⟩)]
  have hex : execOp a.eval o = execOp (gfr ops a0 (val ops a) (dq ops B i)).eval o := execOp_congr o hsel' fun x hx => by
    cases x with
    | tmp t =>
      have := hsame t (List.mem_append_left _ (List.mem_filterMap.2 ⟨.tmp t, by simpa using hx, rfl⟩))
      simp only [Act.eval, Array.getD_eq_getD_getElem?, this]
    | _ => rfl
  have hwant : Region.wanted o (yielded ops a.tmps) = Region.wanted o (yielded ops (gfr ops a0 (val ops a) (dq ops B i)).tmps) := by
    unfold Region.wanted
    cases hg : o.guard with
    | none => rfl
    | some gw =>
      obtain ⟨g, want⟩ := gw
      have hy : yielded ops a.tmps g = yielded ops (gfr ops a0 (val ops a) (dq ops B i)).tmps g := by
        unfold yielded
        cases ht : (ops[g]?).bind (·.dst) with
        | none => rfl
        | some t =>
          have := hsame t (List.mem_append_right _ (by simp [hg, ht]))
          simp only [Option.bind_some, this]
      simp only [hy]
  have hdsti : dst ops i = some d := by rw [dst_of ho, hd]
  have hop' := hop i hi (val ops a) w h.s (fun j hj => h.rel j (hdU j hj) (hdl j (dq_mem.1 hj).1)) o ho
  -- what comes behind
  have hend : ∀ u w', (Below w.heap.size w w' ∧ R i u w') → JB ops B U a0 w0 R (listed.setIfInBounds i true) (a.put o.dst u) w' := fun u w' ⟨hb, hR⟩ => by
    have hvi : val ops (a.put o.dst u) i = u := by
      rw [val_of hdsti, hd, put_same a d u (by rw [h.len]; exact hlt)]
      rfl
    have hvj : ∀ j ∈ U, j ≠ i → val ops (a.put o.dst u) j = val ops a j := fun j hj hne => by
      obtain ⟨oj, t, hoj, hdj0, _⟩ := c1 j hj
      have hdj : dst ops j = some t := by rw [dst_of hoj, hdj0]
      rw [val_of hdj, val_of hdj, put_other a o.dst u t (by rw [hd, ← hdsti, ← hdj]; exact c2 i hi j hj (Ne.symm hne))]
    have hset : ∀ j, (listed.setIfInBounds i true).getD j false = true ↔ j = i ∨ listed.getD j false = true := fun j => by
      by_cases hji : j = i
      · subst hji
        simp [hsz]
      · rw [getD_set_ne false (Ne.symm hji)]
        simp [hji]
    refine ⟨by rw [Array.size_setIfInBounds]; exact h.sz, fun j hj k hk => ?_, fun j hj => ?_, fun j hj hjs => (hset j).2 (.inr (h.hasB j hj hjs)), by rw [put_defers]; exact h.dfr, by rw [put_size]; exact h.len, fun t ht => ?_, fun j hj hjl => ?_, below_then h.s hb (Nat.le_refl _)⟩
    · rcases (hset j).1 hj with rfl | hj
      · exact (hset k).2 (.inr (hdl k hk))
      · exact (hset k).2 (.inr (h.down j hj k hk))
    · rcases (hset j).1 hj with rfl | hj
      · exact .inr hi
      · exact h.inU j hj
    · rw [put_other a o.dst u t (by rw [hd, ← hdsti]; exact ht i hi ((hset i).2 (.inl rfl))), h.old t fun j hj hjl => ht j hj ((hset j).2 (.inr hjl))]
    · by_cases hji : j = i
      · subst hji
        rw [hvi]
        exact hR
      · rw [hvj j hj hji]
        exact hst j _ w w' (h.rel j hj (((hset j).1 hjl).resolve_left hji)) hb
  unfold wpOp
  rw [ho]
  simp only
  rw [hwant]
  by_cases hw : Region.wanted o (yielded ops (gfr ops a0 (val ops a) (dq ops B i)).tmps) = true
  · rw [if_pos hw]
    refine .inl (wp_transfer (a0 := a0) (post := fun u w' => Below w.heap.size w w' ∧ R i u w') hex hd (by rw [gfr_size]; exact hlt) (gfr_defers _) (fun K' hK' => ?_) hend)
    have := hop' K' (fun u w' h1 h2 => hK' u w' ⟨h1, h2⟩)
    rwa [if_pos hw] at this
  · rw [if_neg hw]
    -- not wanted: the slot is told nothing of; so it must be told to be so
    have h0 := hop' (fun a' w' => (Below w.heap.size w w' ∧ R i (a'.tmps.getD d undef) w')) (fun u w' h1 h2 => by
      have : ((gfr ops a0 (val ops a) (dq ops B i)).put o.dst u).tmps.getD d undef = u := by
        rw [hd, Array.getD_eq_getD_getElem?, put_same _ d u (by rw [gfr_size]; exact hlt)]
        rfl
      rw [this]
      exact ⟨h1, h2⟩)
    rw [if_neg hw] at h0
    have : ((gfr ops a0 (val ops a) (dq ops B i)).put o.dst undef).tmps.getD d undef = undef := by
      rw [hd, Array.getD_eq_getD_getElem?, put_same _ d undef (by rw [gfr_size]; exact hlt)]
      rfl
    rw [this] at h0
    exact hend undef w h0
theorem JB.ready_in {listed : Array Bool} {a : Act} {w : World} (h : JB ops B U a0 w0 R listed a w) {i : Nat} (hi : i < ops.size) (hd : ∀ j ∈ dp ops i, listed.getD j false = true) (h0 : Region.ready .any ops listed = []) : listed.getD i false = true := by
  cases hl : listed.getD i false with
  | true => rfl
  | false =>
    exfalso
    have ho : ops[i]? = some ops[i] := Array.getElem?_eq_getElem hi
    have : i ∈ Region.ready .any ops listed := mem_ready.2 ⟨by
      have hs : i < listed.size := by rw [h.sz]; exact hi
      simp [hs] at hl ⊢
      exact hl, _, ho, fun e he hb => hd _ ((dp_of ho _).2 ⟨e, he, hb, rfl⟩)⟩
    rw [h0] at this
    cases this
theorem JB.fin {listed : Array Bool} {a : Act} {w : World} (hc : chkB ops a0.tmps.size B U = true) (h : JB ops B U a0 w0 R listed a w) (hall : ∀ u ∈ U, listed.getD u false = true)
    (hend : ∀ (v : Nat → Value) (w : World), Below w0.heap.size w0 w → (∀ i ∈ U, R i (v i) w) → ∀ fuel, cnt (List.range ops.size) (lst ops (B ++ U)) ≤ fuel → wpAny P .any ops Q fuel (lst ops (B ++ U)) (gfr ops a0 v U) w)
    {fuel : Nat} (hf : cnt (List.range ops.size) listed ≤ fuel) : wpAny P .any ops Q fuel listed a w := by
  obtain ⟨c1, c2, c3, c4⟩ := chkB_spec hc
  have hl : listed = lst ops (B ++ U) := by
    apply Array.ext (by rw [h.sz]; simp [lst])
    intro i h1 h2
    have h3 : (lst ops (B ++ U))[i] = (B ++ U).contains i := by simp only [lst, List.getElem_toArray, List.getElem_map, List.getElem_range]
    rw [h3]
    cases hu : listed[i] with
    | true => exact (by have := h.inU i (by simp [h1, hu]); simpa using this : true = (B ++ U).contains i)
    | false =>
      refine Eq.symm (Bool.eq_false_iff.2 fun hm => ?_)
      have hm2 : i ∈ B ∨ i ∈ U := by simpa using hm
      have := hm2.elim (fun hB => h.hasB i hB (by rw [← h.sz]; exact h1)) (fun hU => hall i hU)
      simp [h1, hu] at this
  have ha : a = gfr ops a0 (val ops a) U := act_ext (by rw [gfr_defers, h.dfr]) fun t => by
    by_cases hex : ∃ j ∈ U, dst ops j = some t
    · obtain ⟨j, hj, hjt⟩ := hex
      obtain ⟨oj, dj, hoj, hdj, hltj, _⟩ := c1 j hj
      have hdj' : dst ops j = some dj := by rw [dst_of hoj, hdj]
      rw [hjt] at hdj'
      cases hdj'
      rw [gfr_in _ j t (fun x hx hxt => Classical.byContradiction fun hne => c2 x hx j hj hne (by rw [hxt, hjt])) hj hjt hltj, val_of hjt]
      have : t < a.tmps.size := by rw [h.len]; exact hltj
      simp [this]
    · rw [h.old t (fun x hx _ hxt => hex ⟨x, hx, hxt⟩), gfr_out _ t (fun x hx hxt => hex ⟨x, hx, hxt⟩)]
  have hrel : ∀ i ∈ U, R i (val ops a i) w := fun i hi => h.rel i hi (hall i hi)
  rw [hl] at hf ⊢
  generalize val ops a = v at *
  subst ha
  exact hend v w h.s hrel fuel hf
theorem phase_go (hc : chkB ops a0.tmps.size B U = true) (hst : ∀ i u w w', R i u w → Below w.heap.size w w' → R i u w') (hop : ∀ i ∈ U, OpOKB P ops B a0 w0 R i)
    (hend : ∀ (v : Nat → Value) (w : World), Below w0.heap.size w0 w → (∀ i ∈ U, R i (v i) w) → ∀ fuel, cnt (List.range ops.size) (lst ops (B ++ U)) ≤ fuel → wpAny P .any ops Q fuel (lst ops (B ++ U)) (gfr ops a0 v U) w) (hBs : ∀ j ∈ B, j < ops.size) :
    ∀ (fuel : Nat) (listed : Array Bool) (a : Act) (w : World), JB ops B U a0 w0 R listed a w → cnt (List.range ops.size) listed ≤ fuel → wpAny P .any ops Q fuel listed a w := by
  obtain ⟨c1, c2, c3, c4⟩ := chkB_spec hc
  have hUs : ∀ u ∈ U, u < ops.size := fun u hu => by
    obtain ⟨o, _, ho, _⟩ := c1 u hu
    rcases Nat.lt_or_ge u ops.size with h' | h'
    · exact h'
    · rw [Array.getElem?_eq_none h'] at ho; cases ho
  intro fuel
  induction fuel with
  | zero =>
    intro listed a w h hf
    have hall : ∀ u ∈ U, listed.getD u false = true := fun u hu => by
      cases hl : listed.getD u false with
      | true => rfl
      | false =>
        exfalso
        have : u ∈ (List.range ops.size).filter fun i => !listed.getD i false := List.mem_filter.2 ⟨List.mem_range.2 (hUs u hu), by rw [hl]; rfl⟩
        have := List.length_pos_of_mem this
        unfold cnt at hf
        omega
    exact JB.fin hc h hall hend hf
  | succ fuel ih =>
    intro listed a w h hf
    by_cases hall : ∀ u ∈ U, listed.getD u false = true
    · exact JB.fin hc h hall hend hf
    have hex : ∃ u, u ∈ U ∧ listed.getD u false = false := by
      refine Classical.byContradiction fun hn => hall fun u hu => ?_
      cases hl : listed.getD u false with
      | true => rfl
      | false => exact absurd ⟨u, hu, hl⟩ hn
    refine ⟨fun h0 => ?_, fun i hi => ?_⟩
    · exfalso
      obtain ⟨u, hu, hul⟩ := hex
      have key : ∀ n u, u ≤ n → u ∈ U → listed.getD u false = true := by
        intro n
        induction n with
        | zero =>
          intro u hun hu
          obtain rfl : u = 0 := by omega
          refine JB.ready_in h (hUs _ hu) (fun j hj => ?_) h0
          obtain ⟨_, _, _, _, _, _, _, hd, _⟩ := c1 0 hu
          rcases hd j hj with hB | ⟨_, hlt⟩
          · exact h.hasB j hB (hBs j hB)
          · exact absurd hlt (by omega)
        | succ n ihn =>
          intro u hun hu
          refine JB.ready_in h (hUs _ hu) (fun j hj => ?_) h0
          obtain ⟨_, _, _, _, _, _, _, hd, _⟩ := c1 u hu
          rcases hd j hj with hB | ⟨hU, hlt⟩
          · exact h.hasB j hB (hBs j hB)
          · exact ihn j (by omega) hU
      rw [key u u (Nat.le_refl _) hu] at hul
      cases hul
    · have hiU : i ∈ U := by
        refine Classical.byContradiction fun hn => ?_
        obtain ⟨u, hu, hul⟩ := hex
        obtain ⟨hun, o, ho, hdep⟩ := mem_ready.1 hi
        have his : i < ops.size := (Array.getElem?_eq_some_iff.1 ho).1
        have hnB : i ∉ B := fun hB => by
          have h5 := h.hasB i hB his
          simp [show i < listed.size by rw [h.sz]; exact his] at hun h5
          rw [hun] at h5
          cases h5
        have := anc_spec (ops := ops) (L := fun x => listed.getD x false = true ∨ x = i) (fun x hx j hj => by
          rcases hx with hx | rfl
          · exact .inl (h.down x hx j hj)
          · obtain ⟨e, he, hb, rfl⟩ := (dp_of ho j).1 hj
            exact .inl (hdep e he hb)) ops.size i u his (.inr rfl) (c3 i his hnB hn u hu)
        rcases this with h1 | rfl
        · rw [h1] at hul; cases hul
        · exact hn hu
      refine wpOp_mono (fun a' w' h' => ih _ a' w' h' ?_) (JB.step hc hst hop h hi hiU)
      have hsz : i < listed.size := by rw [h.sz]; exact hUs i hiU
      have hunf : listed.getD i false = false := by
        have := (mem_ready.1 hi).1
        simp [hsz] at this ⊢
        exact this
      have := (cnt_set (List.range ops.size) listed i).2 (List.mem_range.2 (hUs i hiU)) hsz hunf
      omega
theorem op_okB2 {i : Nat} (f : Array Edge → Oper) (af0 : Array Edge) (ho : ops[i]? = some (f af0)) (L : List Nat) (hdp : dq ops B i = L)
    (h : ∀ (af : Array Edge) (v : Nat → Value) (W : World), Below w0.heap.size w0 W → (∀ j ∈ L, R j (v j) W) → Region.wanted (f af) (yielded ops (gfr ops a0 v L).tmps) = true ∧ OpGo P (f af) (gfr ops a0 v L) W (fun u w' => Below W.heap.size W w' ∧ R i u w')) : OpOKB P ops B a0 w0 R i := fun v W hb hd o' ho' K hK => by
  rw [ho] at ho'
  cases ho'
  rw [hdp] at hd hK ⊢
  obtain ⟨hw, hg⟩ := h af0 v W hb hd
  rw [if_pos hw]
  exact hg K fun u w' ⟨h1, h2⟩ => hK u w' h1 h2
theorem op_noB2 {i : Nat} (f : Array Edge → Oper) (af0 : Array Edge) (ho : ops[i]? = some (f af0)) (L : List Nat) (hdp : dq ops B i = L)
    (h : ∀ (af : Array Edge) (v : Nat → Value) (W : World), Below w0.heap.size w0 W → (∀ j ∈ L, R j (v j) W) → Region.wanted (f af) (yielded ops (gfr ops a0 v L).tmps) = false ∧ R i undef W) : OpOKB P ops B a0 w0 R i := fun v W hb hd o' ho' K hK => by
  rw [ho] at ho'
  cases ho'
  rw [hdp] at hd hK ⊢
  obtain ⟨hw, hg⟩ := h af0 v W hb hd
  rw [if_neg (by rw [hw]; decide)]
  exact hK undef W (Below.refl _ _) hg
theorem one_call {o : Oper} {G : Act} {W : World} {K : Act → World → Prop} (f : FuncId) (args : Array Value) (h : (execOp G.eval o).run P W = .ok (.enter f args) W) (hc : Calls P f args W fun e w' => ∃ u, e = .returned u ∧ K (G.put o.dst u) w') : o.wp P G W K Q := by
  unfold Oper.wp
  rw [h]
  refine Calls.mono hc fun e w'' he => ?_
  obtain ⟨u, rfl, hp⟩ := he
  exact hp
theorem lst_getD (L : List Nat) (i : Nat) (hi : i < ops.size) : (lst ops L).getD i false = L.contains i := by simp [lst, hi]
theorem lst_size (L : List Nat) : (lst ops L).size = ops.size := by simp [lst]
theorem lst_out (L : List Nat) (i : Nat) (hi : ¬ i < ops.size) : (lst ops L).getD i false = false := by simp [lst, hi]
/-- ONE PART, in whatever order. -/
theorem phase_all (B U : List Nat) (R : Nat → Value → World → Prop) (hc : chkB ops a0.tmps.size B U = true) (hBs : (B.all fun j => decide (j < ops.size)) = true) (hst : ∀ i u w w', R i u w → Below w.heap.size w w' → R i u w') (hop : ∀ i ∈ U, OpOKB P ops B a0 w0 R i)
    (hend : ∀ (v : Nat → Value) (w : World), Below w0.heap.size w0 w → (∀ i ∈ U, R i (v i) w) → ∀ fuel, cnt (List.range ops.size) (lst ops (B ++ U)) ≤ fuel → wpAny P .any ops Q fuel (lst ops (B ++ U)) (gfr ops a0 v U) w) (fuel : Nat) (hf : cnt (List.range ops.size) (lst ops B) ≤ fuel) :
    wpAny P .any ops Q fuel (lst ops B) a0 w0 := by
  obtain ⟨c1, c2, c3, c4⟩ := chkB_spec hc
  have hBs' : ∀ j ∈ B, j < ops.size := fun j hj => by simpa using List.all_eq_true.1 hBs j hj
  have hB : ∀ i, (lst ops B).getD i false = true → i ∈ B := fun i h => by
    by_cases hi : i < ops.size
    · rw [lst_getD B i hi] at h; simpa using h
    · rw [lst_out B i hi] at h; cases h
  have hB2 : ∀ i ∈ B, (lst ops B).getD i false = true := fun i hi => by rw [lst_getD B i (hBs' i hi)]; simpa using hi
  refine phase_go hc hst hop hend hBs' fuel (lst ops B) a0 w0 ⟨lst_size B, fun i hi j hj => hB2 j (c4 i (hB i hi) j hj), fun i hi => .inl (hB i hi), fun i hi _ => hB2 i hi, rfl, rfl, fun _ _ => rfl, fun i hi hl => ?_, Below.refl _ _⟩ hf
  obtain ⟨_, _, _, _, _, _, h, _⟩ := c1 i hi
  exact absurd (hB i hl) h
/-- ONE OPERATION, for which all the others wait. -/
theorem phase_one (B : List Nat) (k : Nat) (hBs : (B.all fun j => decide (j < ops.size)) = true) (hk : ((dp ops k).all fun j => B.contains j) = true) (hks : k < ops.size) (hkB : B.contains k = false) (hoth : ((List.range ops.size).all fun i => B.contains i || i == k || (dp ops i).any fun j => !B.contains j) = true) (f : Array Edge → Oper) (af0 : Array Edge) (ho : ops[k]? = some (f af0))
    (hop : ∀ (af : Array Edge) (K : Act → World → Prop), (∀ a' w', (∀ fuel, cnt (List.range ops.size) (lst ops (B ++ [k])) ≤ fuel → wpAny P .any ops Q fuel (lst ops (B ++ [k])) a' w') → K a' w') → if Region.wanted (f af) (yielded ops a0.tmps) = true then (f af).wp P a0 w0 K Q else K (a0.put (f af).dst undef) w0) (fuel : Nat) (hf : cnt (List.range ops.size) (lst ops B) ≤ fuel) :
    wpAny P .any ops Q fuel (lst ops B) a0 w0 := by
  have hunf : (lst ops B).getD k false = false := by rw [lst_getD B k hks]; exact hkB
  have hc := (cnt_set (List.range ops.size) (lst ops B) k).2 (List.mem_range.2 hks) (by rw [lst_size]; exact hks) hunf
  have hset : (lst ops B).setIfInBounds k true = lst ops (B ++ [k]) := by
    apply Array.ext (by simp [lst])
    intro i h1 h2
    rw [Array.getElem_setIfInBounds (by rw [Array.size_setIfInBounds] at h1; exact h1)]
    by_cases e : k = i
    · subst e; simp [lst]
    · rw [if_neg e]; simp [lst, Ne.symm e]
  have hkr : k ∈ Region.ready .any ops (lst ops B) := mem_ready.2 ⟨by
    simp [show k < (lst ops B).size by rw [lst_size]; exact hks] at hunf ⊢
    exact hunf, _, ho, fun e he hb => by
      have hj := List.all_eq_true.1 hk e.on ((dp_of ho _).2 ⟨e, he, hb, rfl⟩)
      by_cases hi : e.on < ops.size
      · rw [lst_getD B _ hi]; exact hj
      · exact absurd (by simpa using List.all_eq_true.1 hBs e.on (by simpa using hj)) hi⟩
  cases fuel with
  | zero => omega
  | succ fuel =>
    refine ⟨fun hr => (by rw [hr] at hkr; cases hkr), fun i hi => ?_⟩
    obtain ⟨h0, oi, hoi, hdeps⟩ := mem_ready.1 hi
    have his := (Array.getElem?_eq_some_iff.1 hoi).1
    obtain rfl : i = k := by
      have h5 := List.all_eq_true.1 hoth i (List.mem_range.2 his)
      simp only [Bool.or_eq_true, beq_iff_eq] at h5
      rcases h5 with (h5 | h5) | h5
      · exfalso
        have : (lst ops B).getD i false = true := by rw [lst_getD B i his]; exact h5
        simp [show i < (lst ops B).size by rw [lst_size]; exact his] at h0 this
        rw [h0] at this
        cases this
      · exact h5
      · exfalso
        obtain ⟨j, hj, hjB⟩ := List.any_eq_true.1 h5
        obtain ⟨e, he, hb, rfl⟩ := (dp_of hoi j).1 hj
        have := hdeps e he hb
        by_cases hj2 : e.on < ops.size
        · rw [lst_getD B _ hj2] at this
          rw [this] at hjB
          cases hjB
        · rw [lst_out B _ hj2] at this
          cases this
    unfold wpOp
    rw [ho]
    simp only
    have h6 := hop af0 (fun a' w' => wpAny P .any ops Q fuel ((lst ops B).setIfInBounds i true) a' w') (fun a' w' h => by rw [hset]; exact h fuel (by rw [← hset]; omega))
    by_cases hw : Region.wanted (f af0) (yielded ops a0.tmps) = true
    · rw [if_pos hw] at h6 ⊢
      exact .inl h6
    · rw [if_neg hw] at h6 ⊢
      exact h6
/-- THE END: all is through. -/
theorem phase_end (B : List Nat) (hB : ((List.range ops.size).all fun i => B.contains i) = true) (hq : Q .normal a0 w0) (fuel : Nat) : wpAny P .any ops Q fuel (lst ops B) a0 w0 := by
  have hr : Region.ready .any ops (lst ops B) = [] := by
    refine List.eq_nil_iff_forall_not_mem.2 fun i hi => ?_
    obtain ⟨h0, o, ho, _⟩ := mem_ready.1 hi
    have his : i < ops.size := (Array.getElem?_eq_some_iff.1 ho).1
    have h1 : (lst ops B).getD i false = true := by rw [lst_getD B i his]; exact List.all_eq_true.1 hB i (List.mem_range.2 his)
    simp [show i < (lst ops B).size by rw [lst_size]; exact his] at h0 h1
    rw [h0] at h1
    cases h1
  cases fuel with
  | zero => exact ⟨hr, hq⟩
  | succ fuel => exact ⟨fun _ => hq, fun i hi => by rw [hr] at hi; cases hi⟩
/-- THE START. -/
theorem phase_start {id : Nat} (hm : P.follows .mixedOrders = true) (h : ∀ fuel, cnt (List.range ops.size) (lst ops []) ≤ fuel → wpAny P .any ops Q fuel (lst ops []) a0 w0.drew) : (Code.region id ops true).wp P Q a0 w0 := by
  refine wp_region_any hm ?_
  have hl : lst ops [] = Array.replicate ops.size false := by
    apply Array.ext (by simp [lst])
    intro i h1 h2
    simp [lst]
  rw [← hl]
  refine h _ ?_
  unfold cnt
  have := List.length_filter_le (fun i => !(lst ops []).getD i false) (List.range ops.size)
  rwa [List.length_range] at this
end
end Reg
end Go.Proofs.YtcdnbidenaljlaaDoor

/- Regions that draw their order, and whose operations may grow rows in place: as XReg, but each operation says itself what lives on, and a value is told of only until its last reader has come. No program in sight. -/
namespace Go.Proofs.YtcdnbidenaljlaaDoor
open Go.RowKit

namespace RegC
open Reg
/-- A value that i's coming makes stale, or that is stale already. -/
def gone (ops : Array Oper) (dead : Nat → Option Nat) (i j : Nat) : Bool := ((anc ops ops.size).getD j 0).testBit i || match dead j with
  | none => false
  | some c => c == i || ((anc ops ops.size).getD i 0).testBit c
def lv (dead : Nat → Option Nat) (i j : Nat) : Bool := dead j == none || dead j == some i
def live (dead : Nat → Option Nat) (listed : Array Bool) (i : Nat) : Prop := ∀ c, dead i = some c → listed.getD c false = false
/-- What is asked of operation number i. -/
def OpOK (P : Program) (ops : Array Oper) (a0 : Act) (w0 : World) (dead : Nat → Option Nat) (R : Nat → Value → World → Prop) (D : Nat → Nat → Value → Value → Prop) (i : Nat) : Prop :=
  ∀ (v : Nat → Value) (w : World), Below w0.heap.size w0 w → (∀ j ∈ dp ops i, lv dead i j = true → R j (v j) w) → ∀ o, ops[i]? = some o →
    ∀ K : Act → World → Prop, (∀ u w', Below w0.heap.size w0 w' → R i u w' → (∀ j x, j ≠ i → gone ops dead i j = false → R j x w → (∀ d ∈ dp ops i, lv dead i d = true → d ≠ j → D d j (v d) x) → R j x w' ∧ D i j u x ∧ D j i x u) → K ((gfr ops a0 v (dp ops i)).put o.dst u) w') →
      if Region.wanted o (yielded ops (gfr ops a0 v (dp ops i)).tmps) = true then o.wp P (gfr ops a0 v (dp ops i)) w K (fun _ _ _ => False) else K ((gfr ops a0 v (dp ops i)).put o.dst undef) w
structure J (ops : Array Oper) (U : List Nat) (a0 : Act) (w0 : World) (dead : Nat → Option Nat) (R : Nat → Value → World → Prop) (D : Nat → Nat → Value → Value → Prop) (listed : Array Bool) (a : Act) (w : World) : Prop where
  sz : listed.size = ops.size
  down : ∀ i, listed.getD i false = true → ∀ j ∈ dp ops i, listed.getD j false = true
  inU : ∀ i, listed.getD i false = true → i ∈ U
  dfr : a.defers = a0.defers
  len : a.tmps.size = a0.tmps.size
  old : ∀ t, (∀ i ∈ U, listed.getD i false = true → dst ops i ≠ some t) → a.tmps[t]? = a0.tmps[t]?
  rel : ∀ i ∈ U, listed.getD i false = true → live dead listed i → R i (val ops a i) w
  dis : ∀ i ∈ U, ∀ j ∈ U, i ≠ j → listed.getD i false = true → listed.getD j false = true → live dead listed i → live dead listed j → D i j (val ops a i) (val ops a j)
  s : Below w0.heap.size w0 w

section
variable {P : Program} {ops : Array Oper} {Q : Exit → Act → World → Prop} {U : List Nat} {a0 : Act} {w0 : World} {dead : Nat → Option Nat} {R : Nat → Value → World → Prop} {D : Nat → Nat → Value → Value → Prop}
theorem of_old {i : Nat} (hl : ((dp ops i).all fun j => lv dead i j) = true) (hst : ∀ i u w w', R i u w → Below w.heap.size w w' → R i u w') (hD : ∀ j u x, D i j u x ∧ D j i x u) (h : Reg.OpOK P ops a0 w0 R (fun _ _ _ _ => True) i) : OpOK P ops a0 w0 dead R D i := fun v w hb hd o ho K hK =>
  h v w hb (fun j hj => hd j hj (List.all_eq_true.1 hl j hj)) o ho K fun u w' hb' hR _ => hK u w' (below_then hb hb' (Nat.le_refl _)) hR fun j x _ _ hx _ => ⟨hst j x w w' hx hb', hD j u x⟩
theorem op_ok2 {i : Nat} (f : Array Edge → Oper) (af0 : Array Edge) (ho : ops[i]? = some (f af0)) (L : List Nat) (hdp : dp ops i = L)
    (h : ∀ (af : Array Edge) (v : Nat → Value) (W : World), Below w0.heap.size w0 W → (∀ j ∈ L, lv dead i j = true → R j (v j) W) → Region.wanted (f af) (yielded ops (gfr ops a0 v L).tmps) = true ∧ OpGo P (f af) (gfr ops a0 v L) W (fun u w' => Below w0.heap.size w0 w' ∧ R i u w' ∧ ∀ j x, j ≠ i → gone ops dead i j = false → R j x W → (∀ d ∈ L, lv dead i d = true → d ≠ j → D d j (v d) x) → R j x w' ∧ D i j u x ∧ D j i x u)) : OpOK P ops a0 w0 dead R D i := fun v W hb hd o' ho' K hK => by
  rw [ho] at ho'
  cases ho'
  rw [hdp] at hd hK ⊢
  obtain ⟨hw, hg⟩ := h af0 v W hb hd
  rw [if_pos hw]
  exact hg K fun u w' ⟨h1, h2, h3⟩ => hK u w' h1 h2 h3
/-- One step: whichever of U comes up. -/
theorem J.step {listed : Array Bool} {a : Act} {w : World} (hc : chk ops a0.tmps.size U = true) (hop : ∀ i ∈ U, OpOK P ops a0 w0 dead R D i)
    (h : J ops U a0 w0 dead R D listed a w) {i : Nat} (hr : i ∈ Region.ready .any ops listed) (hi : i ∈ U) : wpOp P ops Q i (fun a' w' => J ops U a0 w0 dead R D (listed.setIfInBounds i true) a' w') a w := by
  obtain ⟨c1, c2, c3⟩ := chk_spec hc
  obtain ⟨hun, o, ho, hall⟩ := mem_ready.1 hr
  obtain ⟨o', d, ho', hd, hlt, hsel, hdU', hlook⟩ := c1 i hi
  have hdU : ∀ j ∈ dp ops i, j ∈ U := fun j hj => (hdU' j hj).1
  rw [ho] at ho'
  cases ho'
  have hsz : i < listed.size := by
    rcases Nat.lt_or_ge i listed.size with h' | h'
    · exact h'
    · simp [Array.getElem?_eq_none h'] at hun
  have hunf : listed.getD i false = false := by
    simp [hsz] at hun ⊢
    exact hun
  have hdl : ∀ j ∈ dp ops i, listed.getD j false = true := fun j hj => by
    obtain ⟨e, he, hb, rfl⟩ := (dp_of ho j).1 hj
    exact hall e he hb
  have hsel' : ∀ cs b, o.op ≠ .select cs b := fun cs b e => by unfold notSel at hsel; rw [e] at hsel; cases hsel
  have hdlv : ∀ j ∈ dp ops i, lv dead i j = true → live dead listed j := fun j hj h1 c hcd => by
    unfold lv at h1
    simp only [Bool.or_eq_true, beq_iff_eq] at h1
    rcases h1 with h1 | h1
    · rw [h1] at hcd; cases hcd
    · rw [h1] at hcd; cases hcd; exact hunf
  -- the slots that o looks at
  have hsame : ∀ t ∈ o.looksAt ops, a.tmps[t]? = (gfr ops a0 (val ops a) (dp ops i)).tmps[t]? := fun t ht => by
    by_cases hex : ∃ j ∈ U, dst ops j = some t
    · obtain ⟨j, hj, hjt⟩ := hex
      have huniq : ∀ x ∈ U, dst ops x = some t → x = j := fun x hx hxt => Classical.byContradiction fun hne => c2 x hx j hj hne (by rw [hxt, hjt])
      by_cases hjd : j ∈ dp ops i
      · obtain ⟨oj, dj, hoj, hdj, hltj, _⟩ := c1 j hj
        have hdj' : dst ops j = some dj := by rw [dst_of hoj, hdj]
        rw [hjt] at hdj'
        cases hdj'
        rw [gfr_in _ j t (fun x hx => huniq x (hdU x hx)) hjd hjt hltj]
        unfold val
        rw [hjt]
        have : t < a.tmps.size := by rw [h.len]; exact hltj
        simp [this]
      · have hb := (hlook t ht j hj hjt).resolve_left hjd
        have hjn : listed.getD j false = false := by
          cases hjl : listed.getD j false with
          | false => rfl
          | true =>
            have hjs : j < ops.size := by
              rcases Nat.lt_or_ge j ops.size with h' | h'
              · exact h'
              · obtain ⟨oj, _, hoj, _⟩ := c1 j hj
                rw [Array.getElem?_eq_none h'] at hoj
                cases hoj
            have := anc_spec (L := fun x => listed.getD x false = true) h.down ops.size j i hjs hjl hb
            rw [hunf] at this
            cases this
        rw [h.old t (fun x hx hxl hxt => by rw [huniq x hx hxt, hjn] at hxl; cases hxl), gfr_out _ t (fun x hx hxt => hjd (huniq x (hdU x hx) hxt ▸ hx))]
    · rw [h.old t (fun x hx _ hxt => hex ⟨x, hx, hxt⟩), gfr_out _ t (fun x hx hxt => hex ⟨x, hdU x hx, hxt⟩)]
  have hex : execOp a.eval o = execOp (gfr ops a0 (val ops a) (dp ops i)).eval o := execOp_congr o hsel' fun x hx => by
    cases x with
    | tmp t =>
      have := hsame t (List.mem_append_left _ (List.mem_filterMap.2 ⟨.tmp t, by simpa using hx, rfl⟩))
      simp only [Act.eval, Array.getD_eq_getD_getElem?, this]
    | _ => rfl
  have hwant : Region.wanted o (yielded ops a.tmps) = Region.wanted o (yielded ops (gfr ops a0 (val ops a) (dp ops i)).tmps) := by
    unfold Region.wanted
    cases hg : o.guard with
    | none => rfl
    | some gw =>
      obtain ⟨g, want⟩ := gw
      have hy : yielded ops a.tmps g = yielded ops (gfr ops a0 (val ops a) (dp ops i)).tmps g := by
        unfold yielded
        cases ht : (ops[g]?).bind (·.dst) with
        | none => rfl
        | some t =>
          have := hsame t (List.mem_append_right _ (by simp [hg, ht]))
          simp only [Option.bind_some, this]
      simp only [hy]
  have hdsti : dst ops i = some d := by rw [dst_of ho, hd]
  have hop' := hop i hi (val ops a) w h.s (fun j hj hlv => h.rel j (hdU j hj) (hdl j hj) (hdlv j hj hlv)) o ho
  -- what comes behind
  have hend : ∀ u w', (Below w0.heap.size w0 w' ∧ R i u w' ∧ ∀ j x, j ≠ i → gone ops dead i j = false → R j x w → (∀ d ∈ dp ops i, lv dead i d = true → d ≠ j → D d j (val ops a d) x) → R j x w' ∧ D i j u x ∧ D j i x u) → J ops U a0 w0 dead R D (listed.setIfInBounds i true) (a.put o.dst u) w' := fun u w' ⟨hb, hR, hD⟩ => by
    have hvi : val ops (a.put o.dst u) i = u := by
      rw [val_of hdsti, hd, put_same a d u (by rw [h.len]; exact hlt)]
      rfl
    have hvj : ∀ j ∈ U, j ≠ i → val ops (a.put o.dst u) j = val ops a j := fun j hj hne => by
      obtain ⟨oj, t, hoj, hdj0, _⟩ := c1 j hj
      have hdj : dst ops j = some t := by rw [dst_of hoj, hdj0]
      rw [val_of hdj, val_of hdj, put_other a o.dst u t (by rw [hd, ← hdsti, ← hdj]; exact c2 i hi j hj (Ne.symm hne))]
    have hset : ∀ j, (listed.setIfInBounds i true).getD j false = true ↔ j = i ∨ listed.getD j false = true := fun j => by
      by_cases hji : j = i
      · subst hji
        simp [hsz]
      · rw [getD_set_ne false (Ne.symm hji)]
        simp [hji]
    have hlv : ∀ j, live dead (listed.setIfInBounds i true) j → live dead listed j := fun j hj c hcd => by
      cases hl : listed.getD c false with
      | false => rfl
      | true =>
        have := hj c hcd
        rw [(hset c).2 (.inr hl)] at this
        cases this
    have hgo : ∀ j, j ∈ U → listed.getD j false = true → live dead (listed.setIfInBounds i true) j → gone ops dead i j = false := fun j hjU hjl hj => by
      unfold gone
      rw [Bool.or_eq_false_iff]
      refine ⟨?_, ?_⟩
      · cases hb2 : ((anc ops ops.size).getD j 0).testBit i with
        | false => rfl
        | true =>
          obtain ⟨oj, _, hoj, _⟩ := c1 j hjU
          have := anc_spec (L := fun x => listed.getD x false = true) h.down ops.size j i (Array.getElem?_eq_some_iff.1 hoj).1 hjl hb2
          rw [hunf] at this
          cases this
      cases hd2 : dead j with
      | none => rfl
      | some c =>
        have hcl := hj c hd2
        simp only [Bool.or_eq_false_iff, beq_eq_false_iff_ne, ne_eq]
        refine ⟨fun e => ?_, ?_⟩
        · rw [(hset c).2 (.inl e)] at hcl
          cases hcl
        · cases hb2 : ((anc ops ops.size).getD i 0).testBit c with
          | false => rfl
          | true =>
            have his : i < ops.size := (Array.getElem?_eq_some_iff.1 ho).1
            have := anc_spec (L := fun x => (listed.setIfInBounds i true).getD x false = true) (fun x hx k hk => by
              rcases (hset x).1 hx with rfl | hx
              · exact (hset k).2 (.inr (hdl k hk))
              · exact (hset k).2 (.inr (h.down x hx k hk))) ops.size i c his ((hset i).2 (.inl rfl)) hb2
            rw [this] at hcl
            cases hcl
    have hDD : ∀ j, j ∈ U → j ≠ i → listed.getD j false = true → live dead listed j → ∀ d ∈ dp ops i, lv dead i d = true → d ≠ j → D d j (val ops a d) (val ops a j) := fun j hj hji hjl hjv d hdm hdlvd hdj => h.dis d (hdU d hdm) j hj hdj (hdl d hdm) hjl (hdlv d hdm hdlvd) hjv
    refine ⟨by rw [Array.size_setIfInBounds]; exact h.sz, fun j hj k hk => ?_, fun j hj => ?_, by rw [put_defers]; exact h.dfr, by rw [put_size]; exact h.len, fun t ht => ?_, fun j hj hjl hjv => ?_, fun j hj k hk hne hjl hkl hjv hkv => ?_, hb⟩
    · rcases (hset j).1 hj with rfl | hj
      · exact (hset k).2 (.inr (hdl k hk))
      · exact (hset k).2 (.inr (h.down j hj k hk))
    · rcases (hset j).1 hj with rfl | hj
      · exact hi
      · exact h.inU j hj
    · rw [put_other a o.dst u t (by rw [hd, ← hdsti]; exact ht i hi ((hset i).2 (.inl rfl))), h.old t fun j hj hjl => ht j hj ((hset j).2 (.inr hjl))]
    · by_cases hji : j = i
      · subst hji
        rw [hvi]
        exact hR
      · rw [hvj j hj hji]
        have hjl' := ((hset j).1 hjl).resolve_left hji
        exact (hD j _ hji (hgo j hj hjl' hjv) (h.rel j hj hjl' (hlv j hjv)) (hDD j hj hji hjl' (hlv j hjv))).1
    · by_cases hji : j = i
      · subst hji
        have hkj := Ne.symm hne
        have hkl' := ((hset k).1 hkl).resolve_left hkj
        rw [hvi, hvj k hk hkj]
        exact (hD k _ hkj (hgo k hk hkl' hkv) (h.rel k hk hkl' (hlv k hkv)) (hDD k hk hkj hkl' (hlv k hkv))).2.1
      · have hjl' := ((hset j).1 hjl).resolve_left hji
        by_cases hki : k = i
        · subst hki
          rw [hvi, hvj j hj hji]
          exact (hD j _ hji (hgo j hj hjl' hjv) (h.rel j hj hjl' (hlv j hjv)) (hDD j hj hji hjl' (hlv j hjv))).2.2
        · rw [hvj j hj hji, hvj k hk hki]
          exact h.dis j hj k hk hne hjl' (((hset k).1 hkl).resolve_left hki) (hlv j hjv) (hlv k hkv)
  unfold wpOp
  rw [ho]
  simp only
  rw [hwant]
  by_cases hw : Region.wanted o (yielded ops (gfr ops a0 (val ops a) (dp ops i)).tmps) = true
  · rw [if_pos hw]
    refine .inl (wp_transfer (a0 := a0) (post := fun u w' => Below w0.heap.size w0 w' ∧ R i u w' ∧ ∀ j x, j ≠ i → gone ops dead i j = false → R j x w → (∀ d ∈ dp ops i, lv dead i d = true → d ≠ j → D d j (val ops a d) x) → R j x w' ∧ D i j u x ∧ D j i x u) hex hd (by rw [gfr_size]; exact hlt) (gfr_defers _) (fun K' hK' => ?_) hend)
    have := hop' K' (fun u w' h1 h2 h3 => hK' u w' ⟨h1, h2, h3⟩)
    rwa [if_pos hw] at this
  · rw [if_neg hw]
    -- not wanted: the slot is told nothing of; so it must be told to be so
    have h0 := hop' (fun a' w' => (Below w0.heap.size w0 w' ∧ R i (a'.tmps.getD d undef) w' ∧ ∀ j x, j ≠ i → gone ops dead i j = false → R j x w → (∀ d ∈ dp ops i, lv dead i d = true → d ≠ j → D d j (val ops a d) x) → R j x w' ∧ D i j (a'.tmps.getD d undef) x ∧ D j i x (a'.tmps.getD d undef))) (fun u w' h1 h2 h3 => by
      have : ((gfr ops a0 (val ops a) (dp ops i)).put o.dst u).tmps.getD d undef = u := by
        rw [hd, Array.getD_eq_getD_getElem?, put_same _ d u (by rw [gfr_size]; exact hlt)]
        rfl
      rw [this]
      exact ⟨h1, h2, h3⟩)
    rw [if_neg hw] at h0
    have : ((gfr ops a0 (val ops a) (dp ops i)).put o.dst undef).tmps.getD d undef = undef := by
      rw [hd, Array.getD_eq_getD_getElem?, put_same _ d undef (by rw [gfr_size]; exact hlt)]
      rfl
    rw [this] at h0
    exact hend undef w h0
theorem J.ready_in {listed : Array Bool} {a : Act} {w : World} (h : J ops U a0 w0 dead R D listed a w) {i : Nat} (hi : i < ops.size) (hd : ∀ j ∈ dp ops i, listed.getD j false = true) (h0 : Region.ready .any ops listed = []) : listed.getD i false = true := by
  cases hl : listed.getD i false with
  | true => rfl
  | false =>
    exfalso
    have ho : ops[i]? = some ops[i] := Array.getElem?_eq_getElem hi
    have : i ∈ Region.ready .any ops listed := mem_ready.2 ⟨by
      have hs : i < listed.size := by rw [h.sz]; exact hi
      simp [hs] at hl ⊢
      exact hl, _, ho, fun e he hb => hd _ ((dp_of ho _).2 ⟨e, he, hb, rfl⟩)⟩
    rw [h0] at this
    cases this
theorem J.fin {listed : Array Bool} {a : Act} {w : World} (hc : chk ops a0.tmps.size U = true) (h : J ops U a0 w0 dead R D listed a w) (hall : ∀ u ∈ U, listed.getD u false = true)
    (hend : ∀ (v : Nat → Value) (w : World), Below w0.heap.size w0 w → (∀ i ∈ U, dead i = none → R i (v i) w) → ∀ fuel, cnt (List.range ops.size) (lst ops U) ≤ fuel → wpAny P .any ops Q fuel (lst ops U) (gfr ops a0 v U) w)
    {fuel : Nat} (hf : cnt (List.range ops.size) listed ≤ fuel) : wpAny P .any ops Q fuel listed a w := by
  obtain ⟨c1, c2, c3⟩ := chk_spec hc
  have hl : listed = lst ops U := by
    apply Array.ext (by rw [h.sz]; simp [lst])
    intro i h1 h2
    have h3 : (lst ops U)[i] = U.contains i := by simp [lst]
    rw [h3]
    cases hu : listed[i] with
    | true => exact (by have := h.inU i (by simp [h1, hu]); simp [this] : true = U.contains i)
    | false =>
      refine Eq.symm (Bool.eq_false_iff.2 fun hm => ?_)
      have := hall i (by simpa using hm)
      simp [h1, hu] at this
  have ha : a = gfr ops a0 (val ops a) U := act_ext (by rw [gfr_defers, h.dfr]) fun t => by
    by_cases hex : ∃ j ∈ U, dst ops j = some t
    · obtain ⟨j, hj, hjt⟩ := hex
      obtain ⟨oj, dj, hoj, hdj, hltj, _⟩ := c1 j hj
      have hdj' : dst ops j = some dj := by rw [dst_of hoj, hdj]
      rw [hjt] at hdj'
      cases hdj'
      rw [gfr_in _ j t (fun x hx hxt => Classical.byContradiction fun hne => c2 x hx j hj hne (by rw [hxt, hjt])) hj hjt hltj, val_of hjt]
      have : t < a.tmps.size := by rw [h.len]; exact hltj
      simp [this]
    · rw [h.old t (fun x hx _ hxt => hex ⟨x, hx, hxt⟩), gfr_out _ t (fun x hx hxt => hex ⟨x, hx, hxt⟩)]
  have hrel : ∀ i ∈ U, dead i = none → R i (val ops a i) w := fun i hi hn => h.rel i hi (hall i hi) fun c e => by rw [hn] at e; cases e
  rw [hl] at hf ⊢
  generalize val ops a = v at *
  subst ha
  exact hend v w h.s hrel fuel hf
theorem region_go (hc : chk ops a0.tmps.size U = true) (hop : ∀ i ∈ U, OpOK P ops a0 w0 dead R D i)
    (hend : ∀ (v : Nat → Value) (w : World), Below w0.heap.size w0 w → (∀ i ∈ U, dead i = none → R i (v i) w) → ∀ fuel, cnt (List.range ops.size) (lst ops U) ≤ fuel → wpAny P .any ops Q fuel (lst ops U) (gfr ops a0 v U) w) :
    ∀ (fuel : Nat) (listed : Array Bool) (a : Act) (w : World), J ops U a0 w0 dead R D listed a w → cnt (List.range ops.size) listed ≤ fuel → wpAny P .any ops Q fuel listed a w := by
  obtain ⟨c1, c2, c3⟩ := chk_spec hc
  have hUs : ∀ u ∈ U, u < ops.size := fun u hu => by
    obtain ⟨o, _, ho, _⟩ := c1 u hu
    rcases Nat.lt_or_ge u ops.size with h' | h'
    · exact h'
    · rw [Array.getElem?_eq_none h'] at ho; cases ho
  intro fuel
  induction fuel with
  | zero =>
    intro listed a w h hf
    have hall : ∀ u ∈ U, listed.getD u false = true := fun u hu => by
      cases hl : listed.getD u false with
      | true => rfl
      | false =>
        exfalso
        have : u ∈ (List.range ops.size).filter fun i => !listed.getD i false := List.mem_filter.2 ⟨List.mem_range.2 (hUs u hu), by rw [hl]; rfl⟩
        have := List.length_pos_of_mem this
        unfold cnt at hf
        omega
    exact J.fin hc h hall hend hf
  | succ fuel ih =>
    intro listed a w h hf
    by_cases hall : ∀ u ∈ U, listed.getD u false = true
    · exact J.fin hc h hall hend hf
    have hex : ∃ u, u ∈ U ∧ listed.getD u false = false := by
      refine Classical.byContradiction fun hn => hall fun u hu => ?_
      cases hl : listed.getD u false with
      | true => rfl
      | false => exact absurd ⟨u, hu, hl⟩ hn
    refine ⟨fun h0 => ?_, fun i hi => ?_⟩
    · exfalso
      obtain ⟨u, hu, hul⟩ := hex
      have key : ∀ n u, u ≤ n → u ∈ U → listed.getD u false = true := by
        intro n
        induction n with
        | zero =>
          intro u hun hu
          obtain rfl : u = 0 := by omega
          refine J.ready_in h (hUs _ hu) (fun j hj => ?_) h0
          obtain ⟨_, _, _, _, _, _, hd, _⟩ := c1 0 hu
          exact absurd (hd j hj).2 (by omega)
        | succ n ihn =>
          intro u hun hu
          refine J.ready_in h (hUs _ hu) (fun j hj => ?_) h0
          obtain ⟨_, _, _, _, _, _, hd, _⟩ := c1 u hu
          exact ihn j (by have := (hd j hj).2; omega) (hd j hj).1
      rw [key u u (Nat.le_refl _) hu] at hul
      cases hul
    · have hiU : i ∈ U := by
        refine Classical.byContradiction fun hn => ?_
        obtain ⟨u, hu, hul⟩ := hex
        obtain ⟨hun, o, ho, hdep⟩ := mem_ready.1 hi
        have his : i < ops.size := (Array.getElem?_eq_some_iff.1 ho).1
        have := anc_spec (ops := ops) (L := fun x => listed.getD x false = true ∨ x = i) (fun x hx j hj => by
          rcases hx with hx | rfl
          · exact .inl (h.down x hx j hj)
          · obtain ⟨e, he, hb, rfl⟩ := (dp_of ho j).1 hj
            exact .inl (hdep e he hb)) ops.size i u his (.inr rfl) (c3 i his hn u hu)
        rcases this with h1 | rfl
        · rw [h1] at hul; cases hul
        · exact hn hu
      refine wpOp_mono (fun a' w' h' => ih _ a' w' h' ?_) (J.step hc hop h hi hiU)
      have hsz : i < listed.size := by rw [h.sz]; exact hUs i hiU
      have hunf : listed.getD i false = false := by
        have := (mem_ready.1 hi).1
        simp [hsz] at this ⊢
        exact this
      have := (cnt_set (List.range ops.size) listed i).2 (List.mem_range.2 (hUs i hiU)) hsz hunf
      omega
/-- A REGION THAT DRAWS ITS ORDER, one obligation an operation. -/
theorem region_rel {id : Nat} (hm : P.follows .mixedOrders = true) (U : List Nat) (dead : Nat → Option Nat) (R : Nat → Value → World → Prop) (D : Nat → Nat → Value → Value → Prop) (hc : chk ops a0.tmps.size U = true) (hop : ∀ i ∈ U, OpOK P ops a0 w0 dead R D i)
    (hend : ∀ (v : Nat → Value) (w : World), Below w0.heap.size w0 w → (∀ i ∈ U, dead i = none → R i (v i) w) → ∀ fuel, cnt (List.range ops.size) (lst ops U) ≤ fuel → wpAny P .any ops Q fuel (lst ops U) (gfr ops a0 v U) w) :
    (Code.region id ops true).wp P Q a0 w0 := by
  refine wp_region_any hm (region_go hc hop hend _ _ _ _ ⟨by simp, fun i hi => ?_, fun i hi => ?_, rfl, rfl, fun t _ => rfl, fun i _ hi => ?_, fun i _ j _ _ hi => ?_, (Below.refl _ w0).drew⟩ ?_)
  · rw [rep_false] at hi; cases hi
  · rw [rep_false] at hi; cases hi
  · rw [rep_false] at hi; cases hi
  · rw [rep_false] at hi; cases hi
  · unfold cnt
    have := List.length_filter_le (fun i => !(Array.replicate ops.size false).getD i false) (List.range ops.size)
    rwa [List.length_range] at this
/-- Where U is all of them. -/
theorem region_all {id : Nat} (hm : P.follows .mixedOrders = true) (dead : Nat → Option Nat) (R : Nat → Value → World → Prop) (D : Nat → Nat → Value → Value → Prop) (hc : chk ops a0.tmps.size (List.range ops.size) = true) (hop : ∀ i ∈ List.range ops.size, OpOK P ops a0 w0 dead R D i)
    (hend : ∀ (v : Nat → Value) (w : World), Below w0.heap.size w0 w → (∀ i ∈ List.range ops.size, dead i = none → R i (v i) w) → Q .normal (gfr ops a0 v (List.range ops.size)) w) :
    (Code.region id ops true).wp P Q a0 w0 := by
  refine region_rel hm (List.range ops.size) dead R D hc hop fun v w h1 h2 fuel _ => ?_
  have hr : Region.ready .any ops (lst ops (List.range ops.size)) = [] := by
    refine List.eq_nil_iff_forall_not_mem.2 fun i hi => ?_
    obtain ⟨h0, o, ho, _⟩ := mem_ready.1 hi
    have his : i < ops.size := (Array.getElem?_eq_some_iff.1 ho).1
    simp [lst, his] at h0
  cases fuel with
  | zero => exact ⟨hr, hend v w h1 h2⟩
  | succ fuel => exact ⟨fun _ => hend v w h1 h2, fun i hi => by rw [hr] at hi; cases hi⟩
end
end RegC
end Go.Proofs.YtcdnbidenaljlaaDoor

