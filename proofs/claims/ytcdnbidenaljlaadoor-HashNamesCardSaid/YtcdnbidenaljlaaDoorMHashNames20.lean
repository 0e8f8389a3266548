/- Texts of this proof, laid into one: ShaM, ShaA, ShaGa, ShaD, ShaE, ShaF. -/
import Derived.Test.YtcdnbidenaljlaaDoorMHashNames11
import Derived.Test.YtcdnbidenaljlaaDoorMHashNames10
import Derived.Test.YtcdnbidenaljlaaDoorMHashNames12
import Derived.Test.YtcdnbidenaljlaaDoorMHashNames7
import Derived.Test.YtcdnbidenaljlaaDoorMHashNames2
import Derived.Deep.MidRow
import Derived.StillTailTactics
import Derived.Deep.RegionHeld3
import Derived.Deep.DeepCutAuto
/- SHA-256: a state behind a block. -/
namespace Go.Proofs.YtcdnbidenaljlaaDoor
open Go.RowKit Go.Shelf
attribute [local go_sem] Oper.semAt_some

theorem wpListIn_store_z {l n : Nat} {P : Program} {ops : Array Oper} {rest : List Oper} {o : Oper} {a : Act} {w : World} {Q : Exit → Act → World → Prop} (hgd : o.guard = none) (ty : TypeId) (x y : Operand) (ho : o.op = .store ty x y) (g : Nat) (hx : a.eval x = .pointer (some ⟨g, 0, none⟩)) (cs : Array Value) (hy : a.eval y = .agg cs)
    (cur : Array Value) (t : TypeId) (hg : w.heap[g]? = some (.cells cur t (0, 0))) (hs : cs.size = cur.size) (hi : (P.info? ty).map (·.size) = some cs.size) (h1 : ∀ u ∈ cs.toList, u.oneCell' = true)
    (h : wpListIn (Fence.wide.inRound l) n P ops Q rest (a.put o.dst undef) (w.setRow g cs)) : wpListIn (Fence.wide.inRound l) n P ops Q (o :: rest) a w :=
  wpListIn_plain hgd fun K hK => Reg.op_in (by rw [ho]; intro c e; cases e) (wp_store_z ty x y ho g hx cs hy cur t hg hs hi h1 (hK _ _ h))

def FacRow (w : World) : Prop := ∃ t fr, w.heap[1]? = some (.cells (u32C ks) t fr)
theorem FacRow.below {B : Nat} {w W : World} (h : FacRow w) (hB : 1 < B) (hb : Below B w W) : FacRow W := h.elim fun t h => h.elim fun fr h => ⟨t, fr, (hb.block _ hB).trans h⟩
theorem zero_8 : (Tryd.prog.info? 28).bind (fun i => i.zero.map Value.cells) = some (u32C (List.replicate 8 0)) := by kernel_rfl
theorem size_8 : (Tryd.prog.info? 28).map (·.size) = some 8 := by kernel_rfl
theorem size_64b : (Tryd.prog.info? 58).map (·.size) = some 64 := by kernel_rfl
theorem heap_alloc3_0 (w : World) (a b c : Obj) : (((w.alloc a).alloc b).alloc c).heap[w.heap.size]? = some a := (((Below.refl _ ((w.alloc a).alloc b)).alloc (Nat.le_refl _) c).block _ (by simp only [World.size_alloc]; omega)).trans (heap_alloc2_old w a b)
theorem heap_alloc3_1 (w : World) (a b c : Obj) : (((w.alloc a).alloc b).alloc c).heap[w.heap.size + 1]? = some b := (((Below.refl _ ((w.alloc a).alloc b)).alloc (Nat.le_refl _) c).block _ (by simp)).trans (heap_alloc2_new w a b)
theorem heap_alloc3_2 (w : World) (a b c : Obj) : (((w.alloc a).alloc b).alloc c).heap[w.heap.size + 2]? = some c := by
  have := heap_alloc_new ((w.alloc a).alloc b) c
  simpa only [World.size_alloc, Nat.add_assoc, Nat.reduceAdd] using this
theorem row_putObj {W : World} {b : Nat} {cs : Array Value} {t : TypeId} {fr : Nat × Nat} (h : W.heap[b]? = some (.cells cs t fr)) {k : Nat} {o : Obj} (ho : W.heap[k]? = some o) (hc : o.isCells = false) (o' : Obj) : (W.putObj k o').heap[b]? = some (.cells cs t fr) :=
  (World.putObj_heap_other (fun e => by subst e; rw [ho] at h; cases h; cases hc)).trans h
theorem below_putO {B k : Nat} {w W : World} (h : Below B w W) (hk : B ≤ k) (o' : Obj) : Below B w (W.putObj k o') :=
  ⟨h.os, h.tape, h.output, by rw [World.putObj_size]; exact h.size, fun i hi => (World.putObj_heap_other (by omega)).trans (h.block i hi)⟩
def MixI (B : Nat) (s : S8) (x : List UInt8) (w : World) (pre : List (Nat × Nat)) (W : World) : Prop :=
  W.heap[B]? = some (.cells (u32C s.l) 28 (0, 0)) ∧ W.heap[B + 2]? = some (.cells (u32C (List.replicate 8 0)) 28 (0, 0)) ∧ W.heap[B + 3]? = some (.cells (u32C (rds (sched x 64) s pre.length).l) 28 (0, 0)) ∧ Below B w W
theorem sig1_bits (e : Nat) (h : e < 4294967296) : bits .xor .u32 (bits .xor .u32 (rr e 6 : Nat) (rr e 11 : Nat)) (rr e 25 : Nat) = (sig1 e : Nat) := by
  rw [u32_xor_nat _ _ (rr_lt e 6 h) (rr_lt e 11 h)]
  exact u32_xor_nat _ _ (xor_lt (rr_lt e 6 h) (rr_lt e 11 h)) (rr_lt e 25 h)
theorem sig0_bits (e : Nat) (h : e < 4294967296) : bits .xor .u32 (bits .xor .u32 (rr e 2 : Nat) (rr e 13 : Nat)) (rr e 22 : Nat) = (sig0 e : Nat) := by
  rw [u32_xor_nat _ _ (rr_lt e 2 h) (rr_lt e 13 h)]
  exact u32_xor_nat _ _ (xor_lt (rr_lt e 2 h) (rr_lt e 13 h)) (rr_lt e 22 h)
theorem not_nat (e : Nat) (h : e < 4294967296) : 4294967295 ^^^ e = 4294967295 - e := by
  have h1 : (BitVec.allOnes 32 ^^^ BitVec.ofNat 32 e).toNat = 4294967295 ^^^ e := by
    rw [BitVec.toNat_xor, BitVec.toNat_allOnes, BitVec.toNat_ofNat, Nat.mod_eq_of_lt h]
  have h2 : BitVec.allOnes 32 ^^^ BitVec.ofNat 32 e = ~~~ (BitVec.ofNat 32 e) := by
    rw [BitVec.xor_comm, BitVec.xor_allOnes]
  rw [h2, BitVec.toNat_not, BitVec.toNat_ofNat, Nat.mod_eq_of_lt h] at h1
  rw [← h1]
theorem not_bits (e : Nat) (h : e < 4294967296) : bits .xor .u32 IntKind.u32.max (e : Int) = (4294967295 - e : Nat) := by
  have := u32_xor_nat 4294967295 e (by omega) h
  rw [not_nat e h] at this
  exact this
theorem ch_bits (e f g : Nat) (he : e < 4294967296) (hf : f < 4294967296) (hg : g < 4294967296) : bits .xor .u32 (bits .and .u32 (e : Int) (f : Int)) (bits .and .u32 ((4294967295 - e : Nat) : Int) (g : Int)) = (chW e f g : Nat) := by
  rw [u32_and_nat _ _ he hf, u32_and_nat _ _ (by omega) hg]
  exact u32_xor_nat _ _ (and_lt he) (and_lt (by omega))
theorem maj_bits (a b c : Nat) (ha : a < 4294967296) (hb : b < 4294967296) (hc : c < 4294967296) : bits .xor .u32 (bits .xor .u32 (bits .and .u32 (a : Int) (b : Int)) (bits .and .u32 (a : Int) (c : Int))) (bits .and .u32 (b : Int) (c : Int)) = (majW a b c : Nat) := by
  rw [u32_and_nat _ _ ha hb, u32_and_nat _ _ ha hc, u32_and_nat _ _ hb hc, u32_xor_nat _ _ (and_lt ha) (and_lt ha)]
  exact u32_xor_nat _ _ (xor_lt (and_lt ha) (and_lt ha)) (and_lt hb)
theorem wrap_add32 (a b : Nat) : IntKind.u32.wrap ((a : Int) + (b : Int)) = (add32 a b : Nat) := by
  rw [IntKind.wrap_u32']
  unfold add32
  omega
def mixA (S X : Array Value) (B b : Nat) (z : Nat × Nat) : Act := { tmps := #[.agg S, .agg X, .pointer (some ⟨B, 0, none⟩), .pointer (some ⟨B + 1, 0, none⟩), .pointer (some ⟨B + 2, 0, none⟩), .pointer (some ⟨B + 3, 0, none⟩), .int .i64 (z.1 : Int), .int .u32 (z.2 : Int), undef, undef, undef, undef, undef, undef, undef, .agg S, .agg X, .func (.func 55) #[] #[.pointer (some ⟨b, 0, none⟩)], .int .i64 (z.1 : Int), .int .u32 (z.2 : Int), undef, undef, undef, undef, undef, undef, undef, undef, undef, undef, undef, undef, undef, undef, undef, undef, undef, undef, undef, undef, undef, undef, undef, undef, undef, undef, undef, undef, undef, undef, undef, undef, undef, undef, undef, undef, undef, undef, undef, undef, undef, undef, undef, undef, undef, undef, undef, undef, undef, undef, undef, undef, undef, undef, undef, undef, undef, undef, undef, undef, undef, undef, undef, undef, undef, undef, undef, undef, undef, undef, undef, undef, undef, undef, undef, undef, undef, undef, undef, undef, undef, undef, undef, undef, undef, undef, undef, undef, undef], defers := [] }
def mixL (s t : S8) (k : Nat) : List Nat := (List.range 8).map fun j => if j < k then add32 (t.l.getD j 0) (s.l.getD j 0) else t.l.getD j 0
theorem mixL_length (s t : S8) (k : Nat) : (mixL s t k).length = 8 := by simp [mixL]
theorem mixL_zero (s t : S8) : mixL s t 0 = t.l := rfl
theorem mixL_full (s t : S8) : mixL s t 8 = (add8 s t).l := rfl
theorem mixL_get (s t : S8) (k : Nat) (h : k < 8) : (mixL s t k).getD k 0 = t.l.getD k 0 := by
  simp [mixL, List.getD_eq_getElem?_getD, List.getElem?_range h]
theorem mixL_set (s t : S8) (k : Nat) (h : k < 8) : (mixL s t k).set k (add32 (t.l.getD k 0) (s.l.getD k 0)) = mixL s t (k + 1) := by
  refine List.ext_getElem (by simp [mixL]) fun j h1 h2 => ?_
  rw [List.getElem_set]
  simp only [mixL, List.getElem_map, List.getElem_range]
  by_cases e : k = j
  · subst e; simp
  · by_cases e2 : j < k
    · rw [if_neg e, if_pos e2, if_pos (by omega)]
    · rw [if_neg e, if_neg e2, if_neg (by omega)]
def rfB : Code → Option Code
  | .rangeFunc _ _ _ b => some b
  | .seq a b => (rfB a).or (rfB b)
  | .block _ c => rfB c
  | .scope c => rfB c
  | .loop c => rfB c
  | _ => none
set_option maxRecDepth 100000 in
set_option maxHeartbeats 1000000 in
theorem mixed_body (s : S8) (hs : s.ok) (x : List UInt8) (w : World) (hF : FacRow w) (hw1 : 1 < w.heap.size) (S X : Array Value) (L : Nat) (pre : List (Nat × Nat)) (z : Nat × Nat) (rest : List (Nat × Nat)) (W : World) (hl : schP x = pre ++ z :: rest) (hI : MixI w.heap.size s x w pre W) (hst : SprSt (w.heap.size + 4) (w.heap.size + 7) x (pre.length + 1) W) :
    ((Tryd.f27.body.bind rfB).getD .skip).wpIn (Fence.wide.inRound L) (5 - 1 - 1) Tryd.prog (leftOr (MixI w.heap.size s x w) (fun _ _ _ => False) (SprSt (w.heap.size + 4) (w.heap.size + 7) x) (pre ++ [z]) W) (mixA S X w.heap.size (w.heap.size + 4) z) W := by
  simp only [Tryd.f27, rfB, Option.bind_some, Option.getD_some, Option.orElse_some, Option.orElse_none, Option.or_some, Option.none_or]
  obtain ⟨hi, rfl⟩ := schP_at hl
  obtain ⟨h0, h2, h3, hb⟩ := hI
  unfold mixA
  have hok : (rds (sched x 64) s pre.length).ok := rds_ok _ _ _ hs
  have hnext : rds (sched x 64) s (pre.length + 1) = rnd (rds (sched x 64) s pre.length) (ks.getD pre.length 0) (wrd x (sched x pre.length) pre.length) := by
    show rnd _ _ _ = _
    rw [sched_get _ _ _ hi]
  generalize hk : pre.length = k at *
  generalize rds (sched x 64) s k = t at *
  obtain ⟨ta, tb, tc, td, te, tf, tg, th⟩ := t
  have f0 : W.cell? ⟨w.heap.size + 3, 0, none⟩ = some (.int .u32 (ta : Int)) := by rw [cell_of_row _ _ _ _ _ _ h3]; rfl
  have f1 : W.cell? ⟨w.heap.size + 3, 1, none⟩ = some (.int .u32 (tb : Int)) := by rw [cell_of_row _ _ _ _ _ _ h3]; rfl
  have f2 : W.cell? ⟨w.heap.size + 3, 2, none⟩ = some (.int .u32 (tc : Int)) := by rw [cell_of_row _ _ _ _ _ _ h3]; rfl
  have f3 : W.cell? ⟨w.heap.size + 3, 3, none⟩ = some (.int .u32 (td : Int)) := by rw [cell_of_row _ _ _ _ _ _ h3]; rfl
  have f4 : W.cell? ⟨w.heap.size + 3, 4, none⟩ = some (.int .u32 (te : Int)) := by rw [cell_of_row _ _ _ _ _ _ h3]; rfl
  have f5 : W.cell? ⟨w.heap.size + 3, 5, none⟩ = some (.int .u32 (tf : Int)) := by rw [cell_of_row _ _ _ _ _ _ h3]; rfl
  have f6 : W.cell? ⟨w.heap.size + 3, 6, none⟩ = some (.int .u32 (tg : Int)) := by rw [cell_of_row _ _ _ _ _ _ h3]; rfl
  have f7 : W.cell? ⟨w.heap.size + 3, 7, none⟩ = some (.int .u32 (th : Int)) := by rw [cell_of_row _ _ _ _ _ _ h3]; rfl
  obtain ⟨_, fr, hfac⟩ := hF.below hw1 hb
  have fk : W.cell? ⟨1, k, none⟩ = some (.int .u32 (ks.getD k 0 : Nat)) := by rw [cell_of_row _ _ _ _ _ _ hfac]; exact u32C_get _ _ hi
  generalize wrd x (sched x k) k = wv at *
  generalize ks.getD k 0 = kc at *
  obtain ⟨ka, kb, kc', kd, ke, kf, kg, kh⟩ := hok
  have hS1 := sig1_bits te ke
  have hS0 := sig0_bits ta ka
  have hM := maj_bits ta tb tc ka kb kc'
  obtain ⟨ne, hne⟩ : ∃ ne, ne = 4294967295 - te := ⟨_, rfl⟩
  have hNo := not_bits te ke
  have hC := ch_bits te tf tg ke kf kg
  rw [← hne] at hNo hC
  obtain ⟨o1, ho1⟩ : ∃ o, o = add32 (add32 (add32 (add32 th (sig1 te)) (chW te tf tg)) kc) wv := ⟨_, rfl⟩
  have hO1 := wrap_add32 th (sig1 te)
  have hO2 := wrap_add32 (add32 th (sig1 te)) (chW te tf tg)
  have hO3 := wrap_add32 (add32 (add32 th (sig1 te)) (chW te tf tg)) kc
  have hO4 := wrap_add32 (add32 (add32 (add32 th (sig1 te)) (chW te tf tg)) kc) wv
  rw [← ho1] at hO4
  have HO := Lib.hid ho1
  have HE := Lib.hid hne
  clear ho1 hne
  have HK := Lib.hid hk
  have HN := Lib.hid hnext
  have KA := Lib.hid ka
  have KB := Lib.hid kb
  have KC := Lib.hid kc'
  have KE := Lib.hid ke
  have KF := Lib.hid kf
  have KG := Lib.hid kg
  clear hk hnext ka kb kc' kd ke kf kg kh hl hfac
  have hii : (k : Int) < 64 := by omega
  gi_wp2_with fail
  refine region_quiet_in (by kernel_rfl) (fun ⟨_, _, h⟩ => h) (by kernel_rfl) (by kernel_rfl) ?_
  repeat (quiet_step (fail))
  refine wpQuiet_nil ?_
  rintro _ ⟨n1, rfl⟩
  gi_wp2_with fail
  refine ⟨trivial, ?_⟩
  ((with_reducible refine ((callsIn_wide.2 (rotl_any te 6 (-6) rfl KE.out (by omega) (by omega) _)).inRound L).mono ?_))
  rintro e w' ⟨rfl, rfl⟩
  gi_wp2_with fail
  refine ⟨trivial, ?_⟩
  ((with_reducible refine ((callsIn_wide.2 (rotl_any te 11 (-11) rfl KE.out (by omega) (by omega) _)).inRound L).mono ?_))
  rintro e w' ⟨rfl, rfl⟩
  gi_wp2_with fail
  refine ⟨trivial, ?_⟩
  ((with_reducible refine ((callsIn_wide.2 (rotl_any te 25 (-25) rfl KE.out (by omega) (by omega) _)).inRound L).mono ?_))
  rintro e w' ⟨rfl, rfl⟩
  gi_wp2_with fail
  refine region_quiet_in (by kernel_rfl) (fun ⟨_, _, h⟩ => h) (by kernel_rfl) (by kernel_rfl) ?_
  repeat (quiet_step (fail))
  refine wpQuiet_nil ?_
  rintro _ ⟨n2, rfl⟩
  gi_wp2_with fail
  refine ⟨trivial, ?_⟩
  ((with_reducible refine ((callsIn_wide.2 (rotl_any ta 2 (-2) rfl KA.out (by omega) (by omega) _)).inRound L).mono ?_))
  rintro e w' ⟨rfl, rfl⟩
  gi_wp2_with fail
  refine ⟨trivial, ?_⟩
  ((with_reducible refine ((callsIn_wide.2 (rotl_any ta 13 (-13) rfl KA.out (by omega) (by omega) _)).inRound L).mono ?_))
  rintro e w' ⟨rfl, rfl⟩
  gi_wp2_with fail
  refine ⟨trivial, ?_⟩
  ((with_reducible refine ((callsIn_wide.2 (rotl_any ta 22 (-22) rfl KA.out (by omega) (by omega) _)).inRound L).mono ?_))
  rintro e w' ⟨rfl, rfl⟩
  gi_wp2_with (first
    | (with_reducible refine wpListIn_store_z rfl 28 (.tmp 5) (.tmp 95) rfl (w.heap.size + 3) rfl _ rfl (u32C (S8.l ⟨ta, tb, tc, td, te, tf, tg, th⟩)) 28 ?c1 ?c2 ?c3 ?c4 ?_)
    | fail)
  case c1 => exact h3
  case c2 => as_aux_lemma => simp only [List.size_toArray, List.length_cons, List.length_nil, u32C_size, S8.l]
  case c3 => as_aux_lemma => simp only [List.size_toArray, List.length_cons, List.length_nil]; exact size_8
  case c4 => as_aux_lemma => simp [Value.oneCell']
  obtain ⟨C, hC2⟩ : ∃ C, C = #[Value.int .u32 (((o1 : Int) + ((sig0 ta : Nat) + (majW ta tb tc : Nat))) % 4294967296), .int .u32 (ta : Int), .int .u32 (tb : Int), .int .u32 (tc : Int), .int .u32 (((td : Int) + (o1 : Int)) % 4294967296), .int .u32 (te : Int), .int .u32 (tf : Int), .int .u32 (tg : Int)] := ⟨_, rfl⟩
  rw [← hC2]
  have hCe : C = u32C (rnd ⟨ta, tb, tc, td, te, tf, tg, th⟩ kc wv).l := by
    rw [hC2]
    unfold rnd oneW twoW
    simp only [S8.l]
    rw [← HO.out]
    unfold add32 u32C
    simp only [List.map_cons, List.map_nil]
    congr 2
    · congr 1; omega
  clear hC2
  have hsz : ((W.drewN (n1 + n2)).setRow (w.heap.size + 3) C).heap.size = W.heap.size := by simp [World.setRow]
  have hoth : ∀ j, j ≠ w.heap.size + 3 → ((W.drewN (n1 + n2)).setRow (w.heap.size + 3) C).heap[j]? = W.heap[j]? := fun j hj => setRow_other _ _ _ _ hj
  obtain ⟨st1, st2, st3⟩ := hst
  refine ⟨⟨by rw [hsz]; exact Nat.le_refl _, fun j o ho hc => (hoth j (fun e => by subst e; rw [h3] at ho; cases ho; cases hc)).trans ho⟩, ?_, ?_⟩
  · rw [List.length_append, HK.out]
    exact ⟨(hoth _ (by omega)).trans st1, (hoth _ (by omega)).trans st2, st3⟩
  · refine ⟨(hoth _ (by omega)).trans h0, (hoth _ (by omega)).trans h2, ?_, below_setRow (show Below w.heap.size w (W.drewN (n1 + n2)) from ⟨hb.os, hb.tape, hb.output, hb.size, hb.block⟩) (by omega) C⟩
    rw [List.length_append, HK.out]
    have h4 := setRow_heap (W.drewN (n1 + n2)) (w.heap.size + 3) _ C _ _ h3
    rw [h4, hCe]
    have := HN.out
    rw [show k + [(k, wv)].length = k + 1 from rfl, this]
set_option maxRecDepth 100000 in
set_option maxHeartbeats 1000000 in
theorem mixed_any (s : S8) (hs : s.ok) (x : List UInt8) (hx : x.length = 64) (w : World) (hF : FacRow w) (hw1 : 1 < w.heap.size) :
    Calls Tryd.prog 27 #[.agg (u32C s.l), .agg (blkC x)] w fun e w' => e = .returned (.agg (u32C (mixedS s x).l)) ∧ Below w.heap.size w w' := by
  obtain ⟨Z, hZ0, hZ, hZs⟩ : ∃ Z : Array Value, (Tryd.prog.info? 28).bind (fun i => i.zero.map Value.cells) = some Z ∧ Hid (Z = u32C (List.replicate 8 0)) ∧ Z.size = 8 := ⟨_, zero_8, rfl, rfl⟩
  obtain ⟨S, hS, hSs, hS1⟩ : ∃ S : Array Value, Hid (S = u32C s.l) ∧ S.size = 8 ∧ (∀ u ∈ S.toList, u.oneCell' = true) := ⟨_, rfl, rfl, u32C_one _⟩
  obtain ⟨X, hX, hXs⟩ : ∃ X : Array Value, Hid (X = blkC x) ∧ X.size = 64 := ⟨_, rfl, by simp [blkC, u8v, hx]⟩
  rw [← hS.out, ← hX.out]
  have hSi : (Tryd.prog.info? 28).map (·.size) = some S.size := by rw [hSs]; exact size_8
  have hXi : (Tryd.prog.info? 58).map (·.size) = some X.size := by rw [hXs]; exact size_64b
  have q0 : (((w.alloc (.cells S 28)).alloc (.cells X 58)).alloc (.cells Z 28)).heap[w.heap.size]? = some (.cells S 28 (0, 0)) := heap_alloc3_0 _ _ _ _
  have q1 : (((w.alloc (.cells S 28)).alloc (.cells X 58)).alloc (.cells Z 28)).heap[w.heap.size + 1]? = some (.cells X 58 (0, 0)) := heap_alloc3_1 _ _ _ _
  have q2 : (((w.alloc (.cells S 28)).alloc (.cells X 58)).alloc (.cells Z 28)).heap[w.heap.size + 2]? = some (.cells Z 28 (0, 0)) := heap_alloc3_2 _ _ _ _
  have qb : Below w.heap.size w (((w.alloc (.cells S 28)).alloc (.cells X 58)).alloc (.cells Z 28)) := (((Below.refl _ w).alloc (Nat.le_refl _) _).alloc (by simp) _).alloc (by simp; omega) _
  have qz : (((w.alloc (.cells S 28)).alloc (.cells X 58)).alloc (.cells Z 28)).heap.size = w.heap.size + 3 := by simp
  refine (callsIn_wide (n := 5)).1 ?_
  refine callsIn_of_wp_marks Tryd.func27 rfl trivial ?_ rfl
  simp only [Tryd.ntmps27, List.size_toArray, List.length_cons, List.length_nil, Nat.reduceAdd, Nat.reduceSub, Array.replicate_succ, Array.replicate_zero, List.push_toArray, List.append_toArray, List.nil_append, List.cons_append]
  refine wpIn_wide.2 ?_
  go_upto_region 1 with (first
    | (with_reducible refine wpList_alloc_z rfl 28 rfl Z hZ0 ?_)
    | fail)
  simp only [World.size_alloc, Nat.add_assoc, Nat.reduceAdd]
  obtain ⟨w1, hw1e⟩ : ∃ w1, w1 = (((w.alloc (.cells S 28)).alloc (.cells X 58)).alloc (.cells Z 28)) := ⟨_, rfl⟩
  rw [← hw1e] at q0 q1 q2 qb qz ⊢
  clear hw1e
  obtain ⟨w2, hw2⟩ : ∃ w2, w2 = (w1.alloc (.cells Z 28)).setRow w1.heap.size S := ⟨_, rfl⟩
  have qn : (w1.alloc (.cells Z 28)).heap[w1.heap.size]? = some (.cells Z 28 (0, 0)) := heap_alloc_new _ _
  have qb2 : Below w1.heap.size w1 w2 := by rw [hw2]; exact below_setRow ((Below.refl _ w1).alloc (Nat.le_refl _) _) (Nat.le_refl _) S
  have q3 : w2.heap[w.heap.size + 3]? = some (.cells S 28 (0, 0)) := by rw [hw2, ← qz]; exact setRow_heap _ _ Z S _ _ qn
  have z2 : w2.heap.size = w.heap.size + 4 := by rw [hw2]; simp [World.setRow, qz]
  go_upto_region 2 with (first
    | (with_reducible refine wpList_alloc_z rfl 28 rfl Z hZ0 ?_)
    | (with_reducible refine wpList_load_row rfl 28 (.tmp 2) rfl _ rfl 28 S _ _ q0 Tryd.underlying28 rfl hSi ?_)
    | (with_reducible refine wpList_store_z rfl 28 (.tmp 5) (.tmp 15) rfl _ rfl S rfl Z _ qn (by rw [hSs, hZs]) hSi hS1 ?_)
    | fail)
  rw [← hw2, qz]
  have q0' := (qb2.block _ (by omega)).trans q0
  have q1' := (qb2.block _ (by omega)).trans q1
  have q2' := (qb2.block _ (by omega)).trans q2
  have qb' := below_then qb qb2 (by omega)
  clear hw2 q0 q1 q2 qb qb2 qn qz w1
  obtain ⟨w3, hw3⟩ : ∃ w3, w3 = w2.alloc (.cells X 58) := ⟨_, rfl⟩
  have hsp := spread_any x w2
  rw [← hX.out, ← hw3] at hsp
  have hb3 : Below w2.heap.size w2 w3 := by rw [hw3]; exact (Below.refl _ _).alloc (Nat.le_refl _) _
  have qx : w3.heap[w2.heap.size]? = some (.cells X 58 (0, 0)) := by rw [hw3]; exact heap_alloc_new _ _
  have z3 : w3.heap.size = w.heap.size + 5 := by rw [hw3, World.size_alloc, z2]
  have Z3 := Lib.hid z3
  clear hw3 z3
  go_wp2_with (first
    | (with_reducible refine wpList_load_row rfl 58 (.tmp 3) rfl _ rfl 58 X _ _ q1' Tryd.underlying58 rfl hXi ?_)
    | (go_at_call 42; refine hsp.mono ?_; rintro e w' ⟨rfl, hw'⟩; rw [hw']; clear hw')
    | fail)
  have z3 := Z3.out
  have r0 := (hb3.block _ (by omega)).trans q0'
  have r2 := (hb3.block _ (by omega)).trans q2'
  have r3 := (hb3.block _ (by omega)).trans q3
  have rb := below_then qb' hb3 (by omega)
  rw [z2] at qx
  clear hsp q0' q1' q2' q3 qb' hb3 z2
  rw [hX.out] at qx
  rw [hS.out] at r0 r3
  rw [hZ.out] at r2
  refine (wpIn_wide (n := 5)).1 ?_
  refine range_some (F := Fence.wide) (n := 5) rfl (by omega) (gf := 55) (lb := #[.pointer (some ⟨w.heap.size + 4, 0, none⟩)]) rfl trivial (enters_of Tryd.func55 (by kernel_rfl) rfl) encW (fun _ => rfl) (schP x) (SprSt (w.heap.size + 4) (w.heap.size + 7) x) (SprCh (w.heap.size + 7))
    (fun r o => ?hseq) ?hch (MixI w.heap.size s x w) (fun _ _ _ => False) ?h0 ?hIc ?hIp ?hSp ?hIxp (mixA S X w.heap.size (w.heap.size + 4)) ?assign ?body ?done ?stop
  case hseq =>
    have hb := ((Below.refl _ w3).alloc (Nat.le_refl _) o).alloc (show w3.heap.size ≤ (w3.alloc o).heap.size by simp) r
    have := spread_hands 4 (by omega) (w.heap.size + 4) x hx ((w3.alloc o).alloc r) ((hb.block _ (by omega)).trans qx)
    rw [World.size_alloc, World.size_alloc, z3] at this
    exact this
  case hch =>
    intro a b h k o hk ho
    by_cases e : k = w.heap.size + 7
    · subst e; exact h.2 o hk ho
    · exact (h.1.block k (Array.getElem?_eq_some_iff.1 hk).1 (fun e' => e (Option.some.inj e'))).trans hk
  case h0 =>
    intro o r
    have hb := ((Below.refl _ w3).alloc (Nat.le_refl _) o).alloc (show w3.heap.size ≤ (w3.alloc o).heap.size by simp) r
    exact ⟨(hb.block _ (by omega)).trans r0, (hb.block _ (by omega)).trans r2, (hb.block _ (by omega)).trans r3, below_then rb hb (by omega)⟩
  case hIc =>
    rintro q U V ⟨h1, h2, h3, h4⟩ hch
    have hz := h4.size
    exact ⟨(hch.1.block _ (lt_of_get h1) (by simp)).trans h1, (hch.1.block _ (lt_of_get h2) (by simp)).trans h2, (hch.1.block _ (lt_of_get h3) (by simp)).trans h3, hch.1.os.trans h4.os, hch.1.tape.trans h4.tape, hch.1.output.trans h4.output, Nat.le_trans hz hch.1.size, fun j hj => (hch.1.block j (by omega) (by simp; omega)).trans (h4.block j hj)⟩
  case hIp =>
    rintro q U k o o' ⟨h1, h2, h3, h4⟩ hk ho hc
    exact ⟨row_putObj h1 ho hc o', row_putObj h2 ho hc o', row_putObj h3 ho hc o', below_putO h4 (by omega) o'⟩
  case hSp =>
    rintro q U k o o' ⟨h1, h2, h3⟩ hk ho hc
    exact ⟨row_putObj h1 ho hc o', row_putObj h2 ho hc o', h3⟩
  case hIxp =>
    rintro cd q U k o o' h
    exact h.elim
  case stop =>
    rintro D cd pre W rfl hpre h hD
    exact h.elim
  case assign =>
    intro L z W K hK
    unfold encW
    unfold mixA at hK
    gi_wp2
    exact hK
  case body =>
    intro L pre z rest W hl hI hst hlt
    have := mixed_body s hs x w hF hw1 S X L pre z rest W hl hI hst
    simp only [Tryd.f27, rfB, Option.bind_some, Option.getD_some, Option.orElse_some, Option.orElse_none, Option.or_some, Option.none_or] at this
    exact this
  case done =>
    rintro D W rfl ⟨h0, h2, h3, hb⟩ hst hD
    have hl64 : (schP x).length = 64 := by simp [schP]
    rw [hl64] at h3
    have hm : mixedS s x = add8 s (rds (sched x 64) s 64) := rfl
    generalize rds (sched x 64) s 64 = t at *
    have HM := Lib.hid hm
    have h3' : W.heap[w.heap.size + 3]? = some (.cells (u32C (mixL s t 0)) 28 (0, 0)) := by rw [mixL_zero]; exact h3
    clear h3 hst hl64 hm qx
    have hDB : w.heap.size + 3 < w3.heap.size := by omega
    go_wp2_with fail
    go_loopw [96] (fun i wr => ∃ k : Nat, k ≤ 8 ∧ i = .int .i64 (k : Int) ∧ wr.heap[w.heap.size]? = some (.cells (u32C s.l) 28 (0, 0)) ∧ wr.heap[w.heap.size + 2]? = some (.cells (u32C (List.replicate 8 0)) 28 (0, 0)) ∧ wr.heap[w.heap.size + 3]? = some (.cells (u32C (mixL s t k)) 28 (0, 0)) ∧ wr.heap[w3.heap.size]? = some (.deferred (some [])) ∧ Below w.heap.size w wr) (fun i _ => 8 - (intOf i).toNat)
    case atStart => exact ⟨0, by omega, rfl, h0, h2, h3', hD, hb⟩
    case round =>
      obtain ⟨k, hk, rfl, g0, g2, g3, gD, gb⟩ := hrel
      clear h0 h2 h3' hD hb r0 r2 r3 rb
      by_cases hlt : k < 8
      · have hii : (k : Int) < 8 := by omega
        have fs : wr.cell? ⟨w.heap.size, k, none⟩ = some (.int .u32 (s.l.getD k 0 : Nat)) := by rw [cell_of_row _ _ _ _ _ _ g0]; exact u32C_get _ _ hlt
        have ft : wr.cell? ⟨w.heap.size + 3, k, none⟩ = some (.int .u32 (t.l.getD k 0 : Nat)) := by
          rw [cell_of_row _ _ _ _ _ _ g3, u32C_get _ _ (by rw [mixL_length]; exact hlt), mixL_get s t k hlt]
        have ff : wr.frozen? ⟨w.heap.size + 3, k, none⟩ = false := frozen_of_row wr _ k _ _ g3
        have hset := mixL_set s t k hlt
        have HS := Lib.hid hset
        have hnew := heap_setCell_same wr (w.heap.size + 3) k (u32C (mixL s t k)) _ (.int .u32 (add32 (t.l.getD k 0) (s.l.getD k 0) : Nat)) g3
        rw [← u32C_set, hset] at hnew
        clear hset
        generalize t.l.getD k 0 = tk at *
        generalize s.l.getD k 0 = sk at *
        have hw := wrap_add32 tk sk
        generalize add32 tk sk = v at *
        go_wp2_with fail
        go_region
        obtain ⟨wn, hwn⟩ : ∃ wn, wn = (wr.setCell ⟨w.heap.size + 3, k, none⟩ (.int .u32 (v : Int))).drew := ⟨_, rfl⟩
        have hno : ∀ j, j ≠ w.heap.size + 3 → wn.heap[j]? = wr.heap[j]? := fun j hj => by rw [hwn]; exact heap_setCell_other _ _ _ _ hj
        have g3n : wn.heap[w.heap.size + 3]? = some (.cells (u32C (mixL s t (k + 1))) 28 (0, 0)) := by rw [hwn]; exact hnew
        have gbn : Below w.heap.size w wn := by rw [hwn]; exact (gb.setCell (p := ⟨w.heap.size + 3, k, none⟩) (show w.heap.size ≤ w.heap.size + 3 by omega) _).drew
        rw [← hwn]
        have g0n := (hno _ (by omega)).trans g0
        have g2n := (hno _ (by omega)).trans g2
        have gDn := (hno _ (by omega)).trans gD
        clear hwn hno hnew g0 g2 g3 gD gb fs ft ff hw
        go_wp2_with fail
        exact ⟨⟨k + 1, by omega, rfl, g0n, g2n, g3n, gDn, gbn⟩, by simp [intOf]; omega⟩
      · obtain rfl : k = 8 := by omega
        rw [mixL_full, ← HM.out] at g3
        obtain ⟨V, hV, hVs, hV1⟩ : ∃ V : Array Value, Hid (V = u32C (mixedS s x).l) ∧ V.size = 8 ∧ (∀ u ∈ V.toList, u.oneCell' = true) := ⟨_, rfl, rfl, u32C_one _⟩
        rw [← hV.out] at g3
        have hVi : (Tryd.prog.info? 28).map (·.size) = some V.size := by rw [hVs]; exact size_8
        have hVz : V.size = (u32C (List.replicate 8 0)).size := by rw [hVs]; rfl
        have gr := setRow_heap wr (w.heap.size + 2) _ V _ _ g2
        have gD2 : (wr.setRow (w.heap.size + 2) V).heap[w3.heap.size]? = some (.deferred (some [])) := by rw [setRow_other _ _ _ _ (by omega)]; exact gD
        have gb2 := below_setRow gb (show w.heap.size ≤ w.heap.size + 2 by omega) V
        go_wp2_with (first
          | (with_reducible refine wpList_load_row rfl 28 (.tmp 5) rfl _ rfl 28 V _ _ g3 Tryd.underlying28 rfl hVi ?_)
          | (with_reducible refine wpList_store_z rfl 28 (.tmp 4) (.tmp 108) rfl _ rfl V rfl _ _ g2 hVz hVi hV1 ?_)
          | fail)
        refine ⟨by simp, .inl ⟨_, _, rfl, run_takeDeferred gD2, ?_⟩⟩
        have gr2 := row_putObj gr gD2 rfl (.deferred none)
        exact ⟨_, results_cell_row rfl _ _ (w.heap.size + 2) 28 V (0, 0) _ rfl gr2 Tryd.underlying28 rfl hVi, by rw [hV.out], below_putO gb2 (by omega) _⟩
end Go.Proofs.YtcdnbidenaljlaaDoor

/- hash: slices.Clip, slices.Clone of bytes; an append onto a clipped slice; a Running, as it lies; Len. -/
namespace Go.Proofs.YtcdnbidenaljlaaDoor
open Go.RowKit

section
variable {P : Program} {t e : TypeId} {size bytes : Nat} {z : Value}
/-- 'append' onto a slice without room: what is read behind it. -/
theorem run_app_clip (E : Elt P t e size bytes z) (ty : TypeId) (w : World) (A : Option Addr) (n : Nat) (olds : List Value) (hlo : olds.length = n * size) (hro : RdC w A olds) (hA : A = none → n = 0) (A2 : Option Addr) (m c : Nat) (news : List Value)
    (hl : news.length = m * size) (hr : RdC w A2 news) (hmc : m ≤ c) (h63 : n + m ≤ maxLen) (hbytes : (n + m) * bytes ≤ 140737488355328) :
    ∃ A' c' w', (Builtin.append_ #[t, t] ty #[.slice A n n, .slice A2 m c]).run P w = .ok (.slice A' (n + m) c') w' ∧ RdC w' A' (olds ++ news) ∧ n + m ≤ c' ∧ c' ≤ maxLen ∧ (A' = none → n + m = 0) ∧ (∀ ad, A' = some ad → w.heap.size ≤ ad.block ∨ A = some ad ∧ m = 0) ∧ Below w.heap.size w w' := by
  rcases Nat.eq_zero_or_pos m with rfl | hm
  · obtain ⟨i, hi, hz, hz1, hz2⟩ := info_parts E.hi
    have hn : news = [] := List.eq_nil_of_length_eq_zero (by simpa using hl)
    subst hn
    refine ⟨A, n, w, ?_, by simpa using hro, by omega, by omega, by simpa using hA, fun ad h => .inr ⟨h, rfl⟩, Below.refl _ _⟩
    cases A with
    | none =>
      have := hA rfl
      subst this
      cases A2 <;> simp [Builtin.append_, run_underlying E.ht, sizeOf, typeInfo, hi, Builtin.lenOf, Builtin.firstCells, loadCells, loadCellsFrom]
    | some b => cases A2 <;> simp [Builtin.append_, run_underlying E.ht, sizeOf, typeInfo, hi, Builtin.lenOf, Builtin.firstCells, storeCells, loadCells, loadCellsFrom]
  · have hA2 : ∃ b, A2 = some b := by
      have h0 : 0 < news.length := by rw [hl]; exact Nat.mul_pos hm E.hsz
      obtain ⟨ad, h, _⟩ := hr 0 _ (List.getElem?_eq_getElem h0)
      exact ⟨ad, h⟩
    obtain ⟨b, rfl⟩ := hA2
    obtain ⟨v', w', hrun, ho, hb⟩ := run_app_new E ty w A n n olds hlo hro (fun h => ⟨hA h, hA h⟩) b m c news hl hr (by omega) h63 hbytes
    obtain ⟨A', c', rfl, h1, h2, h3, h4⟩ := RdC.of_own ho
    refine ⟨A', c', w', hrun, h3, h1, h2, fun h => ?_, fun ad h => .inl (h4 ad h), hb⟩
    rcases ho.2 with ⟨h5, h6⟩ | ⟨g, cap, cur, h5, _⟩
    · exact h6
    · cases h5; cases h
theorem wpList_app_clip (E : Elt P t e size bytes z) {w : World} {ops : Array Oper} {rest : List Oper} {o : Oper} {a : Act} {Q : Exit → Act → World → Prop} (hgd : o.guard = none) (s x : Operand)
    (ho : o.op = .call { callee := .builtin .append, args := #[s, x], argTypes := #[t, t] })
    (A : Option Addr) (n : Nat) (olds : List Value) (hs : a.eval s = .slice A n n) (hlo : olds.length = n * size) (hro : RdC w A olds) (hA : A = none → n = 0) (A2 : Option Addr) (m c : Nat) (news : List Value) (hx : a.eval x = .slice A2 m c)
    (hl : news.length = m * size) (hr : RdC w A2 news) (hmc : m ≤ c) (h63 : n + m ≤ maxLen) (hbytes : (n + m) * bytes ≤ 140737488355328)
    (h : ∀ A' c' w', RdC w' A' (olds ++ news) → n + m ≤ c' → c' ≤ maxLen → (A' = none → n + m = 0) → (∀ ad, A' = some ad → w.heap.size ≤ ad.block ∨ A = some ad ∧ m = 0) → Below w.heap.size w w' → wpList P ops Q rest (a.put o.dst (.slice A' (n + m) c')) w') : wpList P ops Q (o :: rest) a w :=
  wpList_plain hgd fun _ hK => by
    obtain ⟨A', c', w', hrun, h1, h2, h3, h4, h5, h6⟩ := run_app_clip E o.type w A n olds hlo hro hA A2 m c news hl hr hmc h63 hbytes
    unfold Oper.wp
    simp [execOp, ho, resolve, invoke, builtin, hs, hx, hrun, Result.andThen]
    exact hK _ _ (h A' c' w' h1 h2 h3 h4 h5 h6)
/-- A part of a variable is stored: an array within a struct. -/
theorem wp_store_part {o : Oper} {a : Act} {w : World} {K : Act → World → Prop} {Q : Exit → Act → World → Prop} (ty : TypeId) (x y : Operand) (ho : o.op = .store ty x y) (g off : Nat) (hx : a.eval x = .pointer (some ⟨g, off, none⟩)) (cs : Array Value) (hy : a.eval y = .agg cs)
    (cur : Array Value) (t : TypeId) (hg : w.heap[g]? = some (.cells cur t (0, 0))) (hs : off + cs.size ≤ cur.size) (hi : (P.info? ty).map (·.size) = some cs.size) (h1 : ∀ u ∈ cs.toList, u.oneCell' = true)
    (hK : K (a.put o.dst undef) (w.setRow g (cur.toList.take off ++ cs.toList ++ cur.toList.drop (off + cs.size)).toArray)) : o.wp P a w K Q := by
  have hrun : (storeCells ⟨g, off, none⟩ cs.toList 0).run P w = .ok () (w.setRow g (cur.toList.take off ++ cs.toList ++ cur.toList.drop (off + cs.size)).toArray) := by
    have := run_storeCells_at P g off t cs.toList 0 cur w hg (by simpa using hs) h1
    rw [this]
    simp
  cases hq : P.info? ty with
  | none => simp [hq] at hi
  | some i =>
    have hsz : cs.size = i.size := by simp [hq] at hi; omega
    unfold Oper.wp execOp
    simp only [ho, hx, hy, Instr.storeAt, Instr.sureAddr, Sem.run_bind, Sem.run_pure, Result.andThen_ok, storeVar, sizeOf, typeInfo, hq]
    simp [hq, Value.cells, hsz, hrun]
    rw [← hsz]
    simp only [List.append_assoc] at hK ⊢
    exact hK
theorem step_store_part {ops : Array Oper} {X : Prop} {o : Oper} {a : Act} {w : World} {K : Act → World → Prop} {Q : Exit → Act → World → Prop} (hgd : o.guard = none) (ty : TypeId) (x y : Operand) (ho : o.op = .store ty x y) (g off : Nat) (hx : a.eval x = .pointer (some ⟨g, off, none⟩)) (cs : Array Value) (hy : a.eval y = .agg cs)
    (cur : Array Value) (t : TypeId) (hg : w.heap[g]? = some (.cells cur t (0, 0))) (hs : off + cs.size ≤ cur.size) (hi : (P.info? ty).map (·.size) = some cs.size) (h1 : ∀ u ∈ cs.toList, u.oneCell' = true)
    (hK : K (a.put o.dst undef) (w.setRow g (cur.toList.take off ++ cs.toList ++ cur.toList.drop (off + cs.size)).toArray)) : if Region.wanted o (yielded ops a.tmps) = true then o.wp P a w K Q else X := by
  have hw : Region.wanted o (yielded ops a.tmps) = true := by simp [Region.wanted, hgd]
  rw [if_pos hw]
  exact wp_store_part ty x y ho g off hx cs hy cur t hg hs hi h1 hK
theorem wpList_store_part {ops : Array Oper} {rest : List Oper} {Q : Exit → Act → World → Prop} {o : Oper} {a : Act} {w : World} (hgd : o.guard = none) (ty : TypeId) (x y : Operand) (ho : o.op = .store ty x y) (g off : Nat) (hx : a.eval x = .pointer (some ⟨g, off, none⟩)) (cs : Array Value) (hy : a.eval y = .agg cs)
    (cur : Array Value) (t : TypeId) (hg : w.heap[g]? = some (.cells cur t (0, 0))) (hs : off + cs.size ≤ cur.size) (hi : (P.info? ty).map (·.size) = some cs.size) (h1 : ∀ u ∈ cs.toList, u.oneCell' = true)
    (h : wpList P ops Q rest (a.put o.dst undef) (w.setRow g (cur.toList.take off ++ cs.toList ++ cur.toList.drop (off + cs.size)).toArray)) : wpList P ops Q (o :: rest) a w :=
  wpList_plain hgd fun K hK => wp_store_part ty x y ho g off hx cs hy cur t hg hs hi h1 (hK _ _ h)
end
theorem clip_any (A : Option Addr) (n c : Nat) (hnc : n ≤ c) (w : World) :
    Calls Tryd.prog 26 #[.slice A n c] w fun e w' => e = .returned (.slice A n n) ∧ w = w' := by
  go_enter Tryd.func26, Tryd.ntmps26
  go_wp2
  go_ret
  exact ⟨rfl, rfl⟩
set_option maxRecDepth 20000 in
set_option maxHeartbeats 1000000 in
theorem clone_any (A : Option Addr) (n c : Nat) (l : List UInt8) (hl : l.length = n) (hnc : n ≤ c) (hn : n ≤ 1000000) (w : World) (hr : RdC w A (u8v l)) :
    Calls Tryd.prog 28 #[.slice A n c] w fun e w' => ∃ v', e = .returned v' ∧ w'.ownsRow w.heap.size 5 1 v' n (u8v l) ∧ Below w.heap.size w w' := by
  have q : ∀ (w : World) (a : Option Addr) (n c n' c' : Nat), (binOp .eql 22 (.slice a n c) (.slice none n' c')).run Tryd.prog w = .ok (.bool a.isNone) w := fun w a n c n' c' => Lib.run_eql_slice_nil w 22 5 a n c n' c' Tryd.underlying22
  cases A with
  | none =>
    have h0 : l = [] := by
      cases l with
      | nil => rfl
      | cons x l => obtain ⟨_, h, _⟩ := hr 0 _ (u8v_get (x :: l) 0 (by simp)); cases h
    subst h0
    obtain rfl : n = 0 := by simpa using hl.symm
    go_enter Tryd.func28, Tryd.ntmps28
    go_wp2
    go_ret
    exact ⟨_, rfl, ⟨rfl, .inl ⟨rfl, rfl⟩⟩, Below.refl _ _⟩
  | some a =>
    obtain ⟨w1, hw1⟩ : ∃ w1, w1 = w.alloc (.cells #[] 5) := ⟨_, rfl⟩
    have hb1 : Below w.heap.size w w1 := by rw [hw1]; exact (Below.refl _ _).alloc (Nat.le_refl _) _
    have ho1 : w1.ownsRow w.heap.size 5 1 (.slice (some ⟨w.heap.size, 0, none⟩) 0 0) 0 [] := ⟨rfl, .inr ⟨w.heap.size, 0, #[], rfl, Nat.le_refl _, by rw [hw1]; exact heap_alloc_new _ _, by omega, by unfold maxLen; omega, rfl, rfl⟩⟩
    have hr1 := hr.below hb1
    have HW := Lib.hid hw1
    have HL := Lib.hid hl
    clear hw1 hl
    go_enter Tryd.func28, Tryd.ntmps28
    go_wp2_with (first
      | (at_builtin; rw [← HW.out]; refine wpList_app elt8 rfl (.tmp 5) (.tmp 6) rfl w.heap.size _ 0 [] rfl ho1 (some a) n c (u8v l) rfl (by rw [u8v_length, HL.out]; omega) hr1 (u8v_one l) (by unfold maxLen; omega) (by omega) hb1.size ?_; intro v' w' ho hg)
      | fail)
    go_ret
    rw [Nat.zero_add] at ho
    exact ⟨v', rfl, ho, below_grown hb1 ho1 hg hb1.size (Nat.le_refl _)⟩
end Go.Proofs.YtcdnbidenaljlaaDoor

/- Regions that draw their order: their obligations (printed by regen2.py). -/
namespace Go.Proofs.YtcdnbidenaljlaaDoor
open Go.RowKit
set_option linter.unusedVariables false
set_option linter.unusedSimpArgs false
set_option linter.unusedSectionVars false
def sadd10R (gg bx : Nat) (S : List Value) (X M cur : Array Value) : Nat → Value → World → Prop
  | 0 => fun x_ _ => x_ = (Value.pointer (some ⟨gg, 0, none⟩))
  | 1 => fun x_ _ => x_ = (Value.pointer (some ⟨gg, 0, none⟩))
  | 2 => fun x_ _ => x_ = (Value.pointer (some ⟨gg, 0, none⟩))
  | 3 => fun x_ _ => x_ = (Value.pointer (some ⟨gg, 1, none⟩))
  | 4 => fun x_ _ => x_ = (Value.agg S.toArray)
  | 5 => fun x_ _ => x_ = (Value.agg X)
  | 6 => fun x_ _ => x_ = (Value.agg M)
  | 7 => fun x_ _ => x_ = (Value.pointer (some ⟨gg, 0, none⟩))
  | 8 => fun x_ _ => x_ = (Value.pointer (some ⟨gg, 1, none⟩))
  | _ => fun _ _ => True
theorem sadd10_stable (gg bx : Nat) (S : List Value) (X M cur : Array Value) : ∀ i_ u_ w_ w_', (sadd10R gg bx S X M cur) i_ u_ w_ → Below w_.heap.size w_ w_' → (sadd10R gg bx S X M cur) i_ u_ w_' := fun i_ u_ w_ w_' h_ hb_ => by
  match i_, h_ with
  | 0, h_ => exact h_
  | 1, h_ => exact h_
  | 2, h_ => exact h_
  | 3, h_ => exact h_
  | 4, h_ => exact h_
  | 5, h_ => exact h_
  | 6, h_ => exact h_
  | 7, h_ => exact h_
  | 8, h_ => exact h_
  | 9, h_ => exact h_
  | (_ + 10), _ => trivial
section
variable (gg bx : Nat) (S : List Value) (X M cur : Array Value) (w0 : World) (a0 : Act)
variable (hld : ∀ W, Below w0.heap.size w0 W → W.rangeAt gg 1 S)
variable (hSi : (Tryd.prog.info? 28).map (·.size) = some S.length)
variable (hXi : (Tryd.prog.info? 58).map (·.size) = some X.size)
variable (hmx : ∀ W, Below w0.heap.size w0 W → Calls Tryd.prog 27 #[.agg S.toArray, .agg X] W fun e w' => e = .returned (.agg M) ∧ Below W.heap.size W w')
variable (hMi : (Tryd.prog.info? 28).map (·.size) = some M.size)
variable (hM1 : ∀ u ∈ M.toList, u.oneCell' = true)
variable (hfit : 1 + M.size ≤ cur.size)
variable (M_gg : ∀ W, Below w0.heap.size w0 W → W.heap[gg]? = some (.cells cur 30 (0, 0)))
variable (M_bx : ∀ W, Below w0.heap.size w0 W → W.heap[bx]? = some (.cells X 58 (0, 0)))
variable (i0 : a0.eval (.tmp 0) = (Value.pointer (some ⟨gg, 0, none⟩))) (i5 : a0.eval (.tmp 5) = (Value.pointer (some ⟨bx, 0, none⟩))) (hsz : a0.tmps.size = 69)
include gg bx S X M cur w0 a0 hld hSi hXi hmx hMi hM1 hfit M_gg M_bx i0 i5 hsz
set_option maxHeartbeats 4000000 in
set_option maxRecDepth 20000 in
theorem sadd10_h0 :
    Reg.OpOK Tryd.prog (Reg.opsOf Tryd.f9 10) a0 w0 (sadd10R gg bx S X M cur) (fun _ _ _ _ => True) 0 := by
    refine Reg.op_ok2 (fun af => { dst := some 51, op := Op.move (Operand.tmp 0), type := 31, pos := "hash.go:56", after := af, guard := none }) #[] (by kernel_rfl) [] (by kernel_rfl) fun af v W hb hd => ?_
    have e0 := (Reg.gfr_eval0 (ops := (Reg.opsOf Tryd.f9 10)) (a0 := a0) (v := v) (L := []) 0 (by kernel_rfl)).trans i0
    refine ⟨Reg.wanted_none rfl, ?_⟩
    generalize Reg.gfr (Reg.opsOf Tryd.f9 10) a0 v [] = G at e0 ⊢
    generalize hρ : G.eval = ρ at e0
    have hρ' : G.eval = ρ := hρ
    refine Reg.go_run (Value.pointer (some ⟨gg, 0, none⟩)) W ?_ ?_
    · rw [hρ']; simp [execOp, go_sem, e0]
    · exact ⟨Below.refl _ _, rfl⟩
set_option maxHeartbeats 4000000 in
set_option maxRecDepth 20000 in
theorem sadd10_h1 :
    Reg.OpOK Tryd.prog (Reg.opsOf Tryd.f9 10) a0 w0 (sadd10R gg bx S X M cur) (fun _ _ _ _ => True) 1 := by
    refine Reg.op_ok2 (fun af => { dst := some 52, op := Op.move (Operand.tmp 0), type := 31, pos := "hash.go:56", after := af, guard := none }) #[] (by kernel_rfl) [] (by kernel_rfl) fun af v W hb hd => ?_
    have e0 := (Reg.gfr_eval0 (ops := (Reg.opsOf Tryd.f9 10)) (a0 := a0) (v := v) (L := []) 0 (by kernel_rfl)).trans i0
    refine ⟨Reg.wanted_none rfl, ?_⟩
    generalize Reg.gfr (Reg.opsOf Tryd.f9 10) a0 v [] = G at e0 ⊢
    generalize hρ : G.eval = ρ at e0
    have hρ' : G.eval = ρ := hρ
    refine Reg.go_run (Value.pointer (some ⟨gg, 0, none⟩)) W ?_ ?_
    · rw [hρ']; simp [execOp, go_sem, e0]
    · exact ⟨Below.refl _ _, rfl⟩
set_option maxHeartbeats 4000000 in
set_option maxRecDepth 20000 in
theorem sadd10_h2 :
    Reg.OpOK Tryd.prog (Reg.opsOf Tryd.f9 10) a0 w0 (sadd10R gg bx S X M cur) (fun _ _ _ _ => True) 2 := by
    refine Reg.op_ok2 (fun af => { dst := some 53, op := Op.nilCheck (Operand.tmp 52), type := 0, pos := "hash.go:56", after := af, guard := none }) #[{ on := 1, ground := Ground.data }] (by kernel_rfl) [1] (by kernel_rfl) fun af v W hb hd => ?_
    have d1 : v 1 = (Value.pointer (some ⟨gg, 0, none⟩)) := hd 1 (by decide)
    have e52 := (Reg.gfr_eval (ops := (Reg.opsOf Tryd.f9 10)) (a0 := a0) (v := v) (L := [1]) 52 1 (by kernel_rfl) (by rw [hsz]; omega)).trans d1
    refine ⟨Reg.wanted_none rfl, ?_⟩
    generalize Reg.gfr (Reg.opsOf Tryd.f9 10) a0 v [1] = G at e52 ⊢
    generalize hρ : G.eval = ρ at e52
    have hρ' : G.eval = ρ := hρ
    refine Reg.go_run (Value.pointer (some ⟨gg, 0, none⟩)) W ?_ ?_
    · rw [hρ']; simp [execOp, go_sem, e52]
    · exact ⟨Below.refl _ _, rfl⟩
set_option maxHeartbeats 4000000 in
set_option maxRecDepth 20000 in
theorem sadd10_h3 :
    Reg.OpOK Tryd.prog (Reg.opsOf Tryd.f9 10) a0 w0 (sadd10R gg bx S X M cur) (fun _ _ _ _ => True) 3 := by
    refine Reg.op_ok2 (fun af => { dst := some 54, op := Op.fieldAddr 30 (Operand.tmp 53) 1, type := 0, pos := "hash.go:56", after := af, guard := none }) #[{ on := 2, ground := Ground.data }] (by kernel_rfl) [2] (by kernel_rfl) fun af v W hb hd => ?_
    have d2 : v 2 = (Value.pointer (some ⟨gg, 0, none⟩)) := hd 2 (by decide)
    have e53 := (Reg.gfr_eval (ops := (Reg.opsOf Tryd.f9 10)) (a0 := a0) (v := v) (L := [2]) 53 2 (by kernel_rfl) (by rw [hsz]; omega)).trans d2
    refine ⟨Reg.wanted_none rfl, ?_⟩
    generalize Reg.gfr (Reg.opsOf Tryd.f9 10) a0 v [2] = G at e53 ⊢
    generalize hρ : G.eval = ρ at e53
    have hρ' : G.eval = ρ := hρ
    refine Reg.go_run (Value.pointer (some ⟨gg, 1, none⟩)) W ?_ ?_
    · rw [hρ']; simp [execOp, go_sem, e53]
    · exact ⟨Below.refl _ _, rfl⟩
set_option maxHeartbeats 4000000 in
set_option maxRecDepth 20000 in
theorem sadd10_h4 :
    Reg.OpOK Tryd.prog (Reg.opsOf Tryd.f9 10) a0 w0 (sadd10R gg bx S X M cur) (fun _ _ _ _ => True) 4 := by
    refine Reg.op_ok2 (fun af => { dst := some 55, op := Op.load 28 (Operand.tmp 54), type := 28, pos := "hash.go:56", after := af, guard := none }) #[{ on := 3, ground := Ground.data }] (by kernel_rfl) [3] (by kernel_rfl) fun af v W hb hd => ?_
    have d3 : v 3 = (Value.pointer (some ⟨gg, 1, none⟩)) := hd 3 (by decide)
    have e54 := (Reg.gfr_eval (ops := (Reg.opsOf Tryd.f9 10)) (a0 := a0) (v := v) (L := [3]) 54 3 (by kernel_rfl) (by rw [hsz]; omega)).trans d3
    refine ⟨Reg.wanted_none rfl, ?_⟩
    generalize Reg.gfr (Reg.opsOf Tryd.f9 10) a0 v [3] = G at e54 ⊢
    generalize hρ : G.eval = ρ at e54
    have hρ' : G.eval = ρ := hρ
    exact fun K hK => wp_load_mid 28 (.tmp 54) rfl gg 1 (by rw [hρ']; exact e54) S _ (hld W hb) Tryd.underlying28 rfl hSi (hK _ _ ⟨Below.refl _ _, rfl⟩)
set_option maxHeartbeats 4000000 in
set_option maxRecDepth 20000 in
theorem sadd10_h5 :
    Reg.OpOK Tryd.prog (Reg.opsOf Tryd.f9 10) a0 w0 (sadd10R gg bx S X M cur) (fun _ _ _ _ => True) 5 := by
    refine Reg.op_ok2 (fun af => { dst := some 56, op := Op.load 58 (Operand.tmp 5), type := 58, pos := "hash.go:56", after := af, guard := none }) #[] (by kernel_rfl) [] (by kernel_rfl) fun af v W hb hd => ?_
    have e5 := (Reg.gfr_eval0 (ops := (Reg.opsOf Tryd.f9 10)) (a0 := a0) (v := v) (L := []) 5 (by kernel_rfl)).trans i5
    refine ⟨Reg.wanted_none rfl, ?_⟩
    generalize Reg.gfr (Reg.opsOf Tryd.f9 10) a0 v [] = G at e5 ⊢
    generalize hρ : G.eval = ρ at e5
    have hρ' : G.eval = ρ := hρ
    exact fun K hK => wp_load_row 58 (.tmp 5) rfl bx (by rw [hρ']; exact e5) 58 X (0, 0) _ (M_bx W hb) Tryd.underlying58 rfl hXi (hK _ _ ⟨Below.refl _ _, rfl⟩)
set_option maxHeartbeats 4000000 in
set_option maxRecDepth 20000 in
theorem sadd10_h6 :
    Reg.OpOK Tryd.prog (Reg.opsOf Tryd.f9 10) a0 w0 (sadd10R gg bx S X M cur) (fun _ _ _ _ => True) 6 := by
    refine Reg.op_ok2 (fun af => { dst := some 57, op := Op.call { callee := Callee.value (Operand.func 27), args := #[Operand.tmp 55, Operand.tmp 56], argTypes := #[28, 58] }, type := 28, pos := "hash.go:56", after := af, guard := none }) #[{ on := 4, ground := Ground.data }, { on := 5, ground := Ground.data }] (by kernel_rfl) [4, 5] (by kernel_rfl) fun af v W hb hd => ?_
    have d4 : v 4 = (Value.agg S.toArray) := hd 4 (by decide)
    have d5 : v 5 = (Value.agg X) := hd 5 (by decide)
    have e55 := (Reg.gfr_eval (ops := (Reg.opsOf Tryd.f9 10)) (a0 := a0) (v := v) (L := [4, 5]) 55 4 (by kernel_rfl) (by rw [hsz]; omega)).trans d4
    have e56 := (Reg.gfr_eval (ops := (Reg.opsOf Tryd.f9 10)) (a0 := a0) (v := v) (L := [4, 5]) 56 5 (by kernel_rfl) (by rw [hsz]; omega)).trans d5
    refine ⟨Reg.wanted_none rfl, ?_⟩
    have eF : ∀ f, (Reg.gfr (Reg.opsOf Tryd.f9 10) a0 v [4, 5]).eval (.func f) = .func (.func f) #[] #[] := fun _ => rfl
    generalize Reg.gfr (Reg.opsOf Tryd.f9 10) a0 v [4, 5] = G at e55 e56 eF ⊢
    generalize hρ : G.eval = ρ at e55 e56 eF
    have hρ' : G.eval = ρ := hρ
    refine Reg.go_call 27 #[(Value.agg S.toArray), (Value.agg X)] (by rw [hρ']; simp [execOp, go_sem, e55, e56, eF]) ((hmx W hb).mono fun e w' he => ?_)
    obtain ⟨rfl, hbb⟩ := he
    exact ⟨_, rfl, hbb, rfl⟩
set_option maxHeartbeats 4000000 in
set_option maxRecDepth 20000 in
theorem sadd10_h7 :
    Reg.OpOK Tryd.prog (Reg.opsOf Tryd.f9 10) a0 w0 (sadd10R gg bx S X M cur) (fun _ _ _ _ => True) 7 := by
    refine Reg.op_ok2 (fun af => { dst := some 58, op := Op.nilCheck (Operand.tmp 51), type := 0, pos := "hash.go:56", after := af, guard := none }) #[{ on := 0, ground := Ground.data }, { on := 0, ground := Ground.phase }, { on := 1, ground := Ground.phase }, { on := 2, ground := Ground.phase }, { on := 3, ground := Ground.phase }, { on := 4, ground := Ground.phase }, { on := 5, ground := Ground.phase }, { on := 6, ground := Ground.phase }] (by kernel_rfl) [0, 0, 1, 2, 3, 4, 5, 6] (by kernel_rfl) fun af v W hb hd => ?_
    have d0 : v 0 = (Value.pointer (some ⟨gg, 0, none⟩)) := hd 0 (by decide)
    have e51 := (Reg.gfr_eval (ops := (Reg.opsOf Tryd.f9 10)) (a0 := a0) (v := v) (L := [0, 0, 1, 2, 3, 4, 5, 6]) 51 0 (by kernel_rfl) (by rw [hsz]; omega)).trans d0
    refine ⟨Reg.wanted_none rfl, ?_⟩
    generalize Reg.gfr (Reg.opsOf Tryd.f9 10) a0 v [0, 0, 1, 2, 3, 4, 5, 6] = G at e51 ⊢
    generalize hρ : G.eval = ρ at e51
    have hρ' : G.eval = ρ := hρ
    refine Reg.go_run (Value.pointer (some ⟨gg, 0, none⟩)) W ?_ ?_
    · rw [hρ']; simp [execOp, go_sem, e51]
    · exact ⟨Below.refl _ _, rfl⟩
set_option maxHeartbeats 4000000 in
set_option maxRecDepth 20000 in
theorem sadd10_h8 :
    Reg.OpOK Tryd.prog (Reg.opsOf Tryd.f9 10) a0 w0 (sadd10R gg bx S X M cur) (fun _ _ _ _ => True) 8 := by
    refine Reg.op_ok2 (fun af => { dst := some 59, op := Op.fieldAddr 30 (Operand.tmp 58) 1, type := 0, pos := "hash.go:56", after := af, guard := none }) #[{ on := 7, ground := Ground.data }, { on := 0, ground := Ground.phase }, { on := 1, ground := Ground.phase }, { on := 2, ground := Ground.phase }, { on := 3, ground := Ground.phase }, { on := 4, ground := Ground.phase }, { on := 5, ground := Ground.phase }, { on := 6, ground := Ground.phase }] (by kernel_rfl) [7, 0, 1, 2, 3, 4, 5, 6] (by kernel_rfl) fun af v W hb hd => ?_
    have d7 : v 7 = (Value.pointer (some ⟨gg, 0, none⟩)) := hd 7 (by decide)
    have e58 := (Reg.gfr_eval (ops := (Reg.opsOf Tryd.f9 10)) (a0 := a0) (v := v) (L := [7, 0, 1, 2, 3, 4, 5, 6]) 58 7 (by kernel_rfl) (by rw [hsz]; omega)).trans d7
    refine ⟨Reg.wanted_none rfl, ?_⟩
    generalize Reg.gfr (Reg.opsOf Tryd.f9 10) a0 v [7, 0, 1, 2, 3, 4, 5, 6] = G at e58 ⊢
    generalize hρ : G.eval = ρ at e58
    have hρ' : G.eval = ρ := hρ
    refine Reg.go_run (Value.pointer (some ⟨gg, 1, none⟩)) W ?_ ?_
    · rw [hρ']; simp [execOp, go_sem, e58]
    · exact ⟨Below.refl _ _, rfl⟩
end
set_option maxHeartbeats 4000000 in
set_option maxRecDepth 20000 in
theorem sadd10 (gg bx : Nat) (S : List Value) (X M cur : Array Value) (w0 : World) {s1 s2 s3 s4 s6 s7 s8 s9 s10 s11 s12 s13 s14 s15 s16 s17 s18 s19 s20 s21 s22 s23 s24 s25 s26 s27 s28 s29 s30 s31 s32 s33 s34 s35 s36 s37 s38 s39 s40 s41 s42 s43 s44 s45 s46 s47 s48 s49 s50 s51 s52 s53 s54 s55 s56 s57 s58 s59 s60 s61 s62 s63 s64 s65 s66 s67 s68 : Value}
    (hld : ∀ W, Below w0.heap.size w0 W → W.rangeAt gg 1 S)
    (hSi : (Tryd.prog.info? 28).map (·.size) = some S.length)
    (hXi : (Tryd.prog.info? 58).map (·.size) = some X.size)
    (hmx : ∀ W, Below w0.heap.size w0 W → Calls Tryd.prog 27 #[.agg S.toArray, .agg X] W fun e w' => e = .returned (.agg M) ∧ Below W.heap.size W w')
    (hMi : (Tryd.prog.info? 28).map (·.size) = some M.size)
    (hM1 : ∀ u ∈ M.toList, u.oneCell' = true)
    (hfit : 1 + M.size ≤ cur.size)
    (M_gg : ∀ W, Below w0.heap.size w0 W → W.heap[gg]? = some (.cells cur 30 (0, 0)))
    (M_bx : ∀ W, Below w0.heap.size w0 W → W.heap[bx]? = some (.cells X 58 (0, 0)))
    {Q : Exit → Act → World → Prop}
    (hend : ∀ (w : World), Below w0.heap.size w0 w → Q .normal { tmps := #[(Value.pointer (some ⟨gg, 0, none⟩)), s1, s2, s3, s4, (Value.pointer (some ⟨bx, 0, none⟩)), s6, s7, s8, s9, s10, s11, s12, s13, s14, s15, s16, s17, s18, s19, s20, s21, s22, s23, s24, s25, s26, s27, s28, s29, s30, s31, s32, s33, s34, s35, s36, s37, s38, s39, s40, s41, s42, s43, s44, s45, s46, s47, s48, s49, s50, (Value.pointer (some ⟨gg, 0, none⟩)), (Value.pointer (some ⟨gg, 0, none⟩)), (Value.pointer (some ⟨gg, 0, none⟩)), (Value.pointer (some ⟨gg, 1, none⟩)), (Value.agg S.toArray), (Value.agg X), (Value.agg M), (Value.pointer (some ⟨gg, 0, none⟩)), (Value.pointer (some ⟨gg, 1, none⟩)), s60, s61, s62, s63, s64, s65, s66, s67, s68], defers := [] } (w.setRow gg (cur.toList.take 1 ++ M.toList ++ cur.toList.drop (1 + M.size)).toArray)) :
    (Code.region 10 (Reg.opsOf Tryd.f9 10) true).wp Tryd.prog Q { tmps := #[(Value.pointer (some ⟨gg, 0, none⟩)), s1, s2, s3, s4, (Value.pointer (some ⟨bx, 0, none⟩)), s6, s7, s8, s9, s10, s11, s12, s13, s14, s15, s16, s17, s18, s19, s20, s21, s22, s23, s24, s25, s26, s27, s28, s29, s30, s31, s32, s33, s34, s35, s36, s37, s38, s39, s40, s41, s42, s43, s44, s45, s46, s47, s48, s49, s50, s51, s52, s53, s54, s55, s56, s57, s58, s59, s60, s61, s62, s63, s64, s65, s66, s67, s68], defers := [] } w0 := by
  obtain ⟨a0, ha0⟩ : ∃ a0 : Act, a0 = { tmps := #[(Value.pointer (some ⟨gg, 0, none⟩)), s1, s2, s3, s4, (Value.pointer (some ⟨bx, 0, none⟩)), s6, s7, s8, s9, s10, s11, s12, s13, s14, s15, s16, s17, s18, s19, s20, s21, s22, s23, s24, s25, s26, s27, s28, s29, s30, s31, s32, s33, s34, s35, s36, s37, s38, s39, s40, s41, s42, s43, s44, s45, s46, s47, s48, s49, s50, s51, s52, s53, s54, s55, s56, s57, s58, s59, s60, s61, s62, s63, s64, s65, s66, s67, s68], defers := [] } := ⟨_, rfl⟩
  have hfin : ∀ v : Nat → Value, Reg.gfr (Reg.opsOf Tryd.f9 10) a0 v [0, 1, 2, 3, 4, 5, 6, 7, 8] = { tmps := #[(Value.pointer (some ⟨gg, 0, none⟩)), s1, s2, s3, s4, (Value.pointer (some ⟨bx, 0, none⟩)), s6, s7, s8, s9, s10, s11, s12, s13, s14, s15, s16, s17, s18, s19, s20, s21, s22, s23, s24, s25, s26, s27, s28, s29, s30, s31, s32, s33, s34, s35, s36, s37, s38, s39, s40, s41, s42, s43, s44, s45, s46, s47, s48, s49, s50, v 0, v 1, v 2, v 3, v 4, v 5, v 6, v 7, v 8, s60, s61, s62, s63, s64, s65, s66, s67, s68], defers := [] } := fun v => by rw [ha0]; kernel_rfl
  rw [← ha0]
  have i0 : a0.eval (.tmp 0) = (Value.pointer (some ⟨gg, 0, none⟩)) := by rw [ha0]; rfl
  have i5 : a0.eval (.tmp 5) = (Value.pointer (some ⟨bx, 0, none⟩)) := by rw [ha0]; rfl
  have hsz : a0.tmps.size = 69 := by rw [ha0]; rfl
  clear ha0
  have hn : (Reg.opsOf Tryd.f9 10).size = 10 := by kernel_rfl
  have h0 := sadd10_h0 gg bx S X M cur w0 a0 hld hSi hXi hmx hMi hM1 hfit M_gg M_bx i0 i5 hsz
  have h1 := sadd10_h1 gg bx S X M cur w0 a0 hld hSi hXi hmx hMi hM1 hfit M_gg M_bx i0 i5 hsz
  have h2 := sadd10_h2 gg bx S X M cur w0 a0 hld hSi hXi hmx hMi hM1 hfit M_gg M_bx i0 i5 hsz
  have h3 := sadd10_h3 gg bx S X M cur w0 a0 hld hSi hXi hmx hMi hM1 hfit M_gg M_bx i0 i5 hsz
  have h4 := sadd10_h4 gg bx S X M cur w0 a0 hld hSi hXi hmx hMi hM1 hfit M_gg M_bx i0 i5 hsz
  have h5 := sadd10_h5 gg bx S X M cur w0 a0 hld hSi hXi hmx hMi hM1 hfit M_gg M_bx i0 i5 hsz
  have h6 := sadd10_h6 gg bx S X M cur w0 a0 hld hSi hXi hmx hMi hM1 hfit M_gg M_bx i0 i5 hsz
  have h7 := sadd10_h7 gg bx S X M cur w0 a0 hld hSi hXi hmx hMi hM1 hfit M_gg M_bx i0 i5 hsz
  have h8 := sadd10_h8 gg bx S X M cur w0 a0 hld hSi hXi hmx hMi hM1 hfit M_gg M_bx i0 i5 hsz
  refine Reg.region_rel (by kernel_rfl) [0, 1, 2, 3, 4, 5, 6, 7, 8] (sadd10R gg bx S X M cur) (fun _ _ _ _ => True) (by rw [hsz]; kernel_rfl) (sadd10_stable gg bx S X M cur) (fun i hi => ?_) (fun v w hb hR hD fuel hf => ?_)
  · simp only [List.mem_cons, List.not_mem_nil, or_false] at hi
    rcases hi with rfl | rfl | rfl | rfl | rfl | rfl | rfl | rfl | rfl
    · exact h0
    · exact h1
    · exact h2
    · exact h3
    · exact h4
    · exact h5
    · exact h6
    · exact h7
    · exact h8
  · refine Reg.tail_one 9 (fun af => { dst := none, op := Op.store 28 (Operand.tmp 59) (Operand.tmp 57), type := 0, pos := "hash.go:56", after := af, guard := none }) #[{ on := 8, ground := Ground.data }, { on := 6, ground := Ground.data }, { on := 6, ground := Ground.chain }, { on := 0, ground := Ground.phase }, { on := 1, ground := Ground.phase }, { on := 2, ground := Ground.phase }, { on := 3, ground := Ground.phase }, { on := 4, ground := Ground.phase }, { on := 5, ground := Ground.phase }, { on := 6, ground := Ground.phase }] (by kernel_rfl) (fun _ => rfl) (by decide) (by rw [hn]; decide) (by rw [hn]; decide) (by decide) (fun a' w' => a' = Reg.gfr (Reg.opsOf Tryd.f9 10) a0 v [0, 1, 2, 3, 4, 5, 6, 7, 8] ∧ w' = (w.setRow gg (cur.toList.take 1 ++ M.toList ++ cur.toList.drop (1 + M.size)).toArray)) (fun af K hK => ?_) ?_ fuel hf
    · have v8 : v 8 = (Value.pointer (some ⟨gg, 1, none⟩)) := hR 8 (by decide)
      have e59 := (Reg.gfr_eval (ops := (Reg.opsOf Tryd.f9 10)) (a0 := a0) (v := v) (L := [0, 1, 2, 3, 4, 5, 6, 7, 8]) 59 8 (by kernel_rfl) (by rw [hsz]; omega)).trans v8
      have v6 : v 6 = (Value.agg M) := hR 6 (by decide)
      have e57 := (Reg.gfr_eval (ops := (Reg.opsOf Tryd.f9 10)) (a0 := a0) (v := v) (L := [0, 1, 2, 3, 4, 5, 6, 7, 8]) 57 6 (by kernel_rfl) (by rw [hsz]; omega)).trans v6
      have hp := hK _ _ ⟨rfl, rfl⟩
      generalize Reg.gfr (Reg.opsOf Tryd.f9 10) a0 v [0, 1, 2, 3, 4, 5, 6, 7, 8] = G at hp e59 e57 ⊢
      exact wp_store_at 28 (Operand.tmp 59) (Operand.tmp 57) rfl gg 1 e59 _ e57 cur 30 (M_gg w hb) hfit hM1 hMi rfl hp
    · rintro a' w' ⟨rfl, rfl⟩
      have v0 : v 0 = (Value.pointer (some ⟨gg, 0, none⟩)) := hR 0 (by decide)
      have v1 : v 1 = (Value.pointer (some ⟨gg, 0, none⟩)) := hR 1 (by decide)
      have v2 : v 2 = (Value.pointer (some ⟨gg, 0, none⟩)) := hR 2 (by decide)
      have v3 : v 3 = (Value.pointer (some ⟨gg, 1, none⟩)) := hR 3 (by decide)
      have v4 : v 4 = (Value.agg S.toArray) := hR 4 (by decide)
      have v5 : v 5 = (Value.agg X) := hR 5 (by decide)
      have v6 : v 6 = (Value.agg M) := hR 6 (by decide)
      have v7 : v 7 = (Value.pointer (some ⟨gg, 0, none⟩)) := hR 7 (by decide)
      have v8 : v 8 = (Value.pointer (some ⟨gg, 1, none⟩)) := hR 8 (by decide)
      rw [hfin v, v0, v1, v2, v3, v4, v5, v6, v7, v8]
      exact hend w   hb 
end Go.Proofs.YtcdnbidenaljlaaDoor

/- hash: a Running, as it lies; Add. -/
namespace Go.Proofs.YtcdnbidenaljlaaDoor
open Go.RowKit

def runC (b : Bool) (s : S8) (v : Value) (m : Int) : Array Value := #[.bool b, .int .u32 (s.a : Int), .int .u32 (s.b : Int), .int .u32 (s.c : Int), .int .u32 (s.d : Int), .int .u32 (s.e : Int), .int .u32 (s.f : Int), .int .u32 (s.g : Int), .int .u32 (s.h : Int), v, .int .i64 m]
theorem runC_0 (b b' : Bool) (s : S8) (v : Value) (m : Int) : (runC b s v m).setIfInBounds 0 (.bool b') = runC b' s v m := rfl
theorem runC_9 (b : Bool) (s : S8) (v v' : Value) (m : Int) : (runC b s v m).setIfInBounds 9 v' = runC b s v' m := rfl
theorem runC_10 (b : Bool) (s : S8) (v : Value) (m m' : Int) : (runC b s v m).setIfInBounds 10 (.int .i64 m') = runC b s v m' := rfl
theorem runC_1 (b : Bool) (s s' : S8) (v : Value) (m : Int) : ((runC b s v m).toList.take 1 ++ (u32C s'.l).toList ++ (runC b s v m).toList.drop (1 + (u32C s'.l).size)).toArray = runC b s' v m := rfl
def S8.zero : S8 := ⟨0, 0, 0, 0, 0, 0, 0, 0⟩
def stOf (b : Bool) (l : List UInt8) : S8 := if b = true then hs l (l.length / 64) else S8.zero
def restB (l : List UInt8) (k : Nat) : List UInt8 := l.drop (64 * k)
/-- A Running whose state is behind k blocks. -/
structure RunF (F : Nat → Prop) (g : Nat) (b : Bool) (s : S8) (l : List UInt8) (k : Nat) (A : Option Addr) (c : Nat) (w : World) : Prop where
  row : w.heap[g]? = some (.cells (runC b s (.slice A (l.length - 64 * k) c) (l.length : Int)) 30 (0, 0))
  le : 64 * k ≤ l.length
  nc : l.length - 64 * k ≤ c
  cm : c ≤ maxLen
  rd : RdC w A (u8v (l.drop (64 * k)))
  nil : A = none → l.length - 64 * k = 0
  far : ∀ ad, A = some ad → (64 * k < l.length → F ad.block) ∧ ad.block ≠ g
def RunAtF (F : Nat → Prop) (g : Nat) (b : Bool) (l : List UInt8) (w : World) : Prop := (b = false → l = []) ∧ ∃ A c, RunF F g b (stOf b l) l (l.length / 64) A c w
/-- The same with memory from a block on. -/
abbrev RunK (B g : Nat) (b : Bool) (s : S8) (l : List UInt8) (k : Nat) (A : Option Addr) (c : Nat) (w : World) : Prop := RunF (fun x => B ≤ x) g b s l k A c w
abbrev RunAt (B g : Nat) (b : Bool) (l : List UInt8) (w : World) : Prop := RunAtF (fun x => B ≤ x) g b l w
def BegRow (w : World) : Prop := ∃ t fr, w.heap[0]? = some (.cells (u32C S8.begin.l) t fr)
/-- Both tables lie as they were laid. -/
def TabsOK (w : World) : Prop := FacRow w ∧ BegRow w
theorem TabsOK.grown {g : Nat} {w w' : World} (h : TabsOK w) (hg : w.grownBy w' (some g)) {b : Bool} {s : S8} {v : Value} {m : Int} (hr : w.heap[g]? = some (.cells (runC b s v m) 30 (0, 0))) : TabsOK w' := by
  obtain ⟨⟨t1, f1, h1⟩, ⟨t2, f2, h2⟩⟩ := h
  refine ⟨⟨t1, f1, (hg.block _ (lt_of_get h1) (fun e => ?_)).trans h1⟩, ⟨t2, f2, (hg.block _ (lt_of_get h2) (fun e => ?_)).trans h2⟩⟩
  · have e := Option.some.inj e
    subst e
    rw [h1] at hr
    have h3 : u32C ks = runC b s v m := by injection hr with hr; injection hr
    have h4 := congrArg Array.size h3
    rw [u32C_size] at h4
    exact absurd h4 (by show ¬ 64 = 11; omega)
  · have e := Option.some.inj e
    subst e
    rw [h2] at hr
    have h3 : u32C S8.begin.l = runC b s v m := by injection hr with hr; injection hr
    have h4 := congrArg Array.size h3
    rw [u32C_size] at h4
    exact absurd h4 (by show ¬ 8 = 11; omega)
theorem TabsOK.below {w W : World} (h : TabsOK w) (hb : Below w.heap.size w W) : TabsOK W := by
  obtain ⟨⟨t1, f1, h1⟩, ⟨t2, f2, h2⟩⟩ := h
  exact ⟨⟨t1, f1, (hb.block _ (lt_of_get h1)).trans h1⟩, ⟨t2, f2, (hb.block _ (lt_of_get h2)).trans h2⟩⟩
theorem zero_64b : (Tryd.prog.info? 58).bind (fun i => i.zero.map Value.cells) = some (u8v (List.replicate 64 0)).toArray := by kernel_rfl
theorem rd_or {w w' : World} {g : Nat} {A : Option Addr} {l : List UInt8} (h : RdC w A (u8v l)) (hg : w.grownBy w' (some g)) (hA : ∀ ad, A = some ad → ad.block ≠ g ∨ l = []) : RdC w' A (u8v l) := by
  by_cases h0 : l = []
  · subst h0; exact RdC.nil _ _
  · exact h.grown hg (fun ad e h1 => (hA ad e).elim (fun h2 => h2 (Option.some.inj h1)) h0)
theorem len_any (g : Nat) (b : Bool) (s : S8) (v : Value) (m : Int) (w : World) (h : w.heap[g]? = some (.cells (runC b s v m) 30 (0, 0))) :
    Calls Tryd.prog 12 #[.pointer (some ⟨g, 0, none⟩)] w fun e w' => e = .returned (.int .i64 m) ∧ w = w' := by
  have c10 : w.cell? ⟨g, 10, none⟩ = some (.int .i64 m) := by rw [cell_of_row _ _ _ _ _ _ h]; rfl
  go_enter Tryd.func12, Tryd.ntmps12
  go_wp2
  go_ret
  exact ⟨rfl, rfl⟩
theorem len_nil (w : World) : Calls Tryd.prog 12 #[.pointer none] w fun e w' => e = .returned (.int .i64 0) ∧ w = w' := by
  go_enter Tryd.func12, Tryd.ntmps12
  go_wp2
  go_ret
  exact ⟨rfl, rfl⟩
theorem add_nil (v : Value) (w : World) : Calls Tryd.prog 9 #[.pointer none, v] w fun e w' => e = .returned (.pointer none) ∧ w = w' := by
  go_enter Tryd.func9, Tryd.ntmps9
  go_wp2
  go_ret
  exact ⟨rfl, rfl⟩
set_option maxRecDepth 100000 in
set_option maxHeartbeats 2000000 in
theorem add_anyF (F : Nat → Prop) (g : Nat) (b : Bool) (l : List UInt8) (w : World) (hR0 : RunAtF F g b l w) (hBw : ∀ x, w.heap.size ≤ x → F x) (hT0 : TabsOK w) (A2 : Option Addr) (n2 c2 : Nat) (l2 : List UInt8) (hn2 : l2.length = n2) (hnc : n2 ≤ c2) (hr20 : RdC w A2 (u8v l2)) (hA2 : ∀ ad, A2 = some ad → ad.block ≠ g ∨ l2 = []) (hlen : l.length + n2 ≤ 1000000) :
    Calls Tryd.prog 9 #[.pointer (some ⟨g, 0, none⟩), .slice A2 n2 c2] w fun e w' => e = .returned (.pointer (some ⟨g, 0, none⟩)) ∧ RunAtF F g true (l ++ l2) w' ∧ w.grownBy w' (some g) := by
  obtain ⟨hbl, A, c, hR0⟩ := hR0
  have hrow0 := hR0.row
  cases b
  have HB := Lib.hid (hbl rfl)
  have hbe : hs l (l.length / 64) = S8.begin := by rw [HB.out]; rfl
  obtain ⟨tb0, fr0, hbeg⟩ := hT0.2
  have c0 : w.cell? ⟨g, 0, none⟩ = some (.bool false) := by rw [cell_of_row _ _ _ _ _ _ hrow0]; rfl
  have f0 : w.frozen? ⟨g, 0, none⟩ = false := frozen_of_row w g 0 _ _ hrow0
  have hrow1 : (w.setCell ⟨g, 0, none⟩ (.bool true)).heap[g]? = some (.cells (runC true (stOf false l) (.slice A (l.length - 64 * (l.length / 64)) c) (l.length : Int)) 30 (0, 0)) := by rw [heap_setCell_same _ _ _ _ _ _ hrow0, runC_0]
  have hg1 : w.grownBy (w.setCell ⟨g, 0, none⟩ (.bool true)) (some g) := ⟨rfl, rfl, rfl, by simp, fun j _ hj => heap_setCell_other _ _ _ _ (fun e => hj (by rw [e]))⟩
  obtain ⟨G, hG, hGs, hG1⟩ : ∃ G : Array Value, Hid (G = u32C S8.begin.l) ∧ G.size = 8 ∧ (∀ u ∈ G.toList, u.oneCell' = true) := ⟨_, rfl, rfl, u32C_one _⟩
  rw [← hG.out] at hbeg
  have hGi : (Tryd.prog.info? 28).map (·.size) = some G.size := by rw [hGs]; exact size_8
  have hGf : 1 + G.size ≤ (runC true (stOf false l) (.slice A (l.length - 64 * (l.length / 64)) c) (l.length : Int)).size := by rw [hGs]; exact (show 1 + 8 ≤ 11 by omega)
  have HBE := Lib.hid hbe
  clear hbl hbe
  go_enter Tryd.func9, Tryd.ntmps9
  go_upto_region 5 with (first
    | (with_reducible refine wpList_load_row rfl 28 (.global 0) rfl 0 rfl tb0 G _ _ hbeg Tryd.underlying28 rfl hGi ?_)
    | (with_reducible refine wpList_store_part rfl 28 (.tmp 19) (.tmp 15) rfl g 1 rfl G rfl _ _ hrow1 hGf hGi hG1 ?_)
    | fail)
  rw [hG.out, runC_1]
  obtain ⟨w4, hw4⟩ : ∃ w4, w4 = (w.setCell ⟨g, 0, none⟩ (.bool true)).setRow g (runC true S8.begin (.slice A (l.length - 64 * (l.length / 64)) c) (l.length : Int)) := ⟨_, rfl⟩
  have hG4 : w.grownBy w4 (some g) := by rw [hw4]; exact hg1.trans ⟨rfl, rfl, rfl, by simp [World.setRow], fun j _ hj => setRow_other _ _ _ _ (fun e => hj (by rw [e]))⟩
  have hrow : w4.heap[g]? = some (.cells (runC true (hs l (l.length / 64)) (.slice A (l.length - 64 * (l.length / 64)) c) (l.length : Int)) 30 (0, 0)) := by rw [hw4, HBE.out]; exact setRow_heap _ _ _ _ _ _ hrow1
  rw [← hw4]
  clear hw4 hg1 hrow1 hbeg c0 f0 hG hGs hG1 hGi hGf
  rotate_left
  have c0 : w.cell? ⟨g, 0, none⟩ = some (.bool true) := by rw [cell_of_row _ _ _ _ _ _ hrow0]; rfl
  have hrow : w.heap[g]? = some (.cells (runC true (hs l (l.length / 64)) (.slice A (l.length - 64 * (l.length / 64)) c) (l.length : Int)) 30 (0, 0)) := hrow0
  go_enter Tryd.func9, Tryd.ntmps9
  go_upto_region 5 with (fail)
  have hG4 : w.grownBy w (some g) := World.grownBy.refl _ _
  obtain ⟨w4, hw4⟩ : ∃ w4, w4 = w := ⟨_, rfl⟩
  rw [show w.grownBy w (some g) = w.grownBy w4 (some g) by rw [hw4]] at hG4
  rw [← hw4] at hrow
  rw [show w = w4 from hw4.symm]
  clear hw4 c0 hbl
  all_goals
    have hR : RunF F g true (hs l (l.length / 64)) l (l.length / 64) A c w4 := ⟨hrow, hR0.le, hR0.nc, hR0.cm, hR0.rd.grown hG4 (fun ad e h => (hR0.far ad e).2 (Option.some.inj h)), hR0.nil, hR0.far⟩
    have hT := hT0.grown hG4 hrow0
    have hr2 := rd_or hr20 hG4 hA2
    have hBw4 : ∀ x, w4.heap.size ≤ x → F x := fun x h => hBw x (Nat.le_trans hG4.size h)
    clear hR0 hrow0 hT0 hr20 hBw
    have c10 : w4.cell? ⟨g, 10, none⟩ = some (.int .i64 (l.length : Int)) := by rw [cell_of_row _ _ _ _ _ _ hrow]; rfl
    have f10 : w4.frozen? ⟨g, 10, none⟩ = false := frozen_of_row w4 g 10 _ _ hrow
    have hle := hR.le
    have HW5 : w4.grownBy (w4.setCell ⟨g, 10, none⟩ (.int .i64 ((l.length : Int) + (n2 : Int)))) (some g) := ⟨rfl, rfl, rfl, by simp, fun j _ hj => heap_setCell_other _ _ _ _ (fun e => hj (by rw [e]))⟩
    have hrow5 : (w4.setCell ⟨g, 10, none⟩ (.int .i64 ((l.length : Int) + (n2 : Int)))).heap[g]? = some (.cells (runC true (hs l (l.length / 64)) (.slice A (l.length - 64 * (l.length / 64)) c) ((l.length : Int) + (n2 : Int))) 30 (0, 0)) := by rw [heap_setCell_same _ _ _ _ _ _ hrow, runC_10]
    go_upto_region 6 with (fail)
    obtain ⟨k0, hk0⟩ : ∃ k0, k0 = l.length / 64 := ⟨_, rfl⟩
    rw [← hk0] at hR hrow hrow5 hle
    have HK0 := Lib.hid hk0
    have hA0 := hR.nil
    have hcm := hR.cm
    have hn0 := hR.nc
    have hrd5 := hR.rd.grown HW5 (fun ad e h => (hR.far ad e).2 (Option.some.inj h))
    have hr25 : RdC (w4.setCell ⟨g, 10, none⟩ (.int .i64 ((l.length : Int) + (n2 : Int)))) A2 (u8v l2) := rd_or hr2 HW5 hA2
    have hT5 := hT.grown HW5 hrow
    have hfar := hR.far
    obtain ⟨r0, hr0⟩ : ∃ r0, r0 = l.length - 64 * k0 := ⟨_, rfl⟩
    rw [← hr0] at hrow5 hA0 hn0
    obtain ⟨w5, hw5⟩ : ∃ w5, w5 = w4.setCell ⟨g, 10, none⟩ (.int .i64 ((l.length : Int) + (n2 : Int))) := ⟨_, rfl⟩
    rw [← hw5] at hrow5 hrd5 hr25 hT5 HW5 ⊢
    have hbw5 : ∀ x, w5.heap.size ≤ x → F x := fun x h => hBw4 x (Nat.le_trans HW5.size h)
    have c9 : w5.cell? ⟨g, 9, none⟩ = some (.slice A r0 c) := by rw [cell_of_row _ _ _ _ _ _ hrow5]; rfl
    have HN2 := Lib.hid hn2
    have HR0 := Lib.hid hr0
    clear hw5 hrow c10 f10 hr2 hk0 hR hn2 hr0 hT
    have hrl : (u8v (l.drop (64 * k0))).length = r0 * 1 := by rw [u8v_length, List.length_drop, ← HR0.out]; omega
    have h2l : (u8v l2).length = n2 * 1 := by rw [u8v_length, HN2.out]; omega
    have HRL := Lib.hid hrl
    have H2L := Lib.hid h2l
    have hrl0 : r0 ≤ l.length := by have := HR0.out; omega
    clear hrl h2l
    go_wp2_with (first
      | (go_at_call 26; refine (clip_any A r0 c hn0 _).mono ?_; rintro e w' ⟨rfl, rfl⟩)
      | (at_builtin; go_loud (refine wpList_app_clip elt8 rfl (.tmp 34) (.tmp 35) rfl A r0 (u8v (l.drop (64 * k0))) rfl HRL.out hrd5 hA0 A2 n2 c2 (u8v l2) rfl H2L.out hr25 hnc (by unfold maxLen; omega) (by omega) ?_; intro A3 c3 w6 g1 g2 g3 g4 g5 g6; have hrow6 := (g6.block _ (lt_of_get hrow5)).trans hrow5; have c96 : w6.cell? ⟨g, 9, none⟩ = some (.slice A r0 c) := (by rw [cell_of_row _ _ _ _ _ _ hrow6]; rfl); have f96 : w6.frozen? ⟨g, 9, none⟩ = false := frozen_of_row w6 g 9 _ _ hrow6))
      | fail)
    obtain ⟨w7, hw7⟩ : ∃ w7, w7 = w6.setCell ⟨g, 9, none⟩ (.slice A3 (r0 + n2) c3) := ⟨_, rfl⟩
    have hg67 : w6.grownBy w7 (some g) := by rw [hw7]; exact ⟨rfl, rfl, rfl, by simp, fun j _ hj => heap_setCell_other _ _ _ _ (fun e => hj (by rw [e]))⟩
    have hrow7 : w7.heap[g]? = some (.cells (runC true (hs l k0) (.slice A3 (r0 + n2) c3) ((l.length : Int) + (n2 : Int))) 30 (0, 0)) := by rw [hw7, heap_setCell_same _ _ _ _ _ _ hrow6, runC_9]
    have HG7 : w.grownBy w7 (some g) := ((hG4.trans HW5).trans (grownBy_of_below g6 _)).trans hg67
    have hT7 : TabsOK w7 := (hT5.grown (grownBy_of_below g6 _) hrow5).grown hg67 hrow6
    have hK7 : RunF F g true (hs (l ++ l2) k0) (l ++ l2) k0 A3 c3 w7 := by
      have e1 : (l ++ l2).length = l.length + n2 := by rw [List.length_append, HN2.out]
      have e2 : (l ++ l2).length - 64 * k0 = r0 + n2 := by rw [e1]; have := HR0.out; omega
      have hne : ∀ ad, A3 = some ad → (64 * k0 < (l ++ l2).length → F ad.block) ∧ ad.block ≠ g := fun ad e => by
        rcases g5 ad e with h | h
        · exact ⟨fun _ => hbw5 _ h, by have := lt_of_get hrow5; omega⟩
        · exact ⟨fun h1 => (hfar ad h.1).1 (by rw [e1] at h1; have := h.2; omega), (hfar ad h.1).2⟩
      refine ⟨?_, by omega, by omega, g3, ?_, by rw [e2]; exact g4, hne⟩
      · rw [hrow7, hs_app _ _ _ hle, e2, e1]; congr 3
      · rw [List.drop_append_of_le_length hle, u8v_append]
        exact g1.grown hg67 (fun ad e h => (hne ad e).2 (Option.some.inj h))
    have HL := HN2.out
    rw [← hw7]
    obtain ⟨L, hL⟩ : ∃ L, L = l ++ l2 := ⟨_, rfl⟩
    have hLl : L.length ≤ 1000000 := by rw [hL, List.length_append, HL]; exact hlen
    rw [← hL] at hK7
    have HLL := Lib.hid hL
    clear hw7 hg67 hrow7 HL hL c96 f96 hrow6 g1 g2 g3 g4 g5 g6 c9 hrd5 hr25 hrow5 HW5 hT5 hbw5 hfar hA0 hn0 HR0 HRL H2L hrl0 hlen HN2 hcm hle
    go_loopw [5] (fun _ wr => ∃ (k : Nat) (A : Option Addr) (c : Nat), RunF F g true (hs L k) L k A c wr ∧ TabsOK wr ∧ w.grownBy wr (some g)) (fun _ wr => match wr.cell? ⟨g, 9, none⟩ with | some (.slice _ n _) => n | _ => 0)
    case atStart => exact ⟨_, _, _, hK7, hT7, HG7⟩
    case round =>
      obtain ⟨k, A, c, hK, hT, hG⟩ := hrel
      clear hK7 hT7 HG7
      have hrow := hK.row
      have c9 : wr.cell? ⟨g, 9, none⟩ = some (.slice A (L.length - 64 * k) c) := by rw [cell_of_row _ _ _ _ _ _ hrow]; rfl
      by_cases h64 : 64 ≤ L.length - 64 * k
      · obtain ⟨Z, hZ0, hZs⟩ : ∃ Z : List Value, (Tryd.prog.info? 58).bind (fun i => i.zero.map Value.cells) = some Z.toArray ∧ Z.length = 64 := ⟨u8v (List.replicate 64 0), zero_64b, by simp [u8v]⟩
        obtain ⟨w8, hw8⟩ : ∃ w8, w8 = wr.alloc (.cells Z.toArray 58) := ⟨_, rfl⟩
        have hb8 : Below wr.heap.size wr w8 := by rw [hw8]; exact (Below.refl _ _).alloc (Nat.le_refl _) _
        have hx8 : w8.heap[wr.heap.size]? = some (.cells Z.toArray 58 (0, 0)) := by rw [hw8]; exact heap_alloc_new _ _
        have hrow8 := (hb8.block _ (lt_of_get hrow)).trans hrow
        have c98 : w8.cell? ⟨g, 9, none⟩ = some (.slice A (L.length - 64 * k) c) := by rw [cell_of_row _ _ _ _ _ _ hrow8]; rfl
        have HW8 := Lib.hid hw8
        clear hw8
        have hmn : ((u8v (L.drop (64 * k))).take 64).length = 64 := by rw [List.length_take, u8v_length, List.length_drop]; omega
        have HMN := Lib.hid hmn
        have HZS := Lib.hid hZs
        have h64i : (64 : Int) ≤ ((L.length - 64 * k : Nat) : Int) := by omega
        have hmin : Nat.min (L.length - 64 * k) 64 = 64 := Nat.min_eq_right h64
        have HMI := Lib.hid hmin
        have hrd8 := hK.rd.below hb8
        obtain ⟨r, hr⟩ : ∃ r, r = L.length - 64 * k := ⟨_, rfl⟩
        rw [← hr] at hrow hrow8 c9 c98 h64 h64i
        have HR := Lib.hid hr
        clear hmn hZs hmin hr
        go_upto_region 9 with (first
          | (with_reducible refine wpList_alloc_z rfl 58 rfl Z.toArray hZ0 ?_)
          | fail)
        rw [← HW8.out]
        go_still_tail 5, (by kernel_rfl)
        change wpList _ _ _ _ _ w8.drew
        refine wpList_copy_splice rfl (.tmp 45) (.tmp 49) 22 22 rfl 5 Tryd.underlying22 (by kernel_rfl) (some ⟨wr.heap.size, 0, none⟩) A 64 64 r c rfl rfl wr.heap.size 0 Z 58 hx8 ((u8v (L.drop (64 * k))).take 64) ?_ ?_ ?_ ?_ wr.heap.size wr hb8.drew (Nat.le_refl _) ?_
        · rw [HMN.out]; exact (Nat.min_eq_right h64).symm
        · intro _
          refine ⟨rfl, ?_⟩
          have hlt : 0 < (u8v (L.drop (64 * k))).length := by rw [u8v_length, List.length_drop]; have := HR.out; omega
          obtain ⟨ad, e, _⟩ := hrd8 0 _ (List.getElem?_eq_getElem hlt)
          refine ⟨ad, e, fun j v hj => ?_⟩
          rw [List.getElem?_take] at hj
          split at hj
          · obtain ⟨ad', e', h⟩ := hrd8 j v hj
            rw [e] at e'
            cases e'
            exact h
          · cases hj
        · rw [HMN.out, HZS.out]; omega
        · exact fun u hu => u8v_one _ u (List.mem_of_mem_take hu)
        intro w9 hx9 hb9
        have hb89 : splice Z 0 ((u8v (L.drop (64 * k))).take 64) = u8v ((L.drop (64 * k)).take 64) := by
          rw [u8v_take]
          have h1 : (u8v ((L.drop (64 * k)).take 64)).length = 64 := by rw [← u8v_take]; exact HMN.out
          generalize u8v ((L.drop (64 * k)).take 64) = X at *
          unfold splice
          rw [List.take_zero, List.nil_append, h1, Nat.zero_add, List.drop_of_length_le (by rw [HZS.out]; omega), List.append_nil]
        rw [hb89] at hx9
        have hx := hx9.out
        clear hb89 hx9 hx8 c98 hrow8 hb8 HZS hZ0 HMN HMI HW8
        obtain ⟨blk, hblk⟩ : ∃ blk, blk = (L.drop (64 * k)).take 64 := ⟨_, rfl⟩
        rw [← hblk] at hx
        have hbl : blk.length = 64 := by rw [hblk, List.length_take, List.length_drop]; have := HR.out; omega
        have HBK := Lib.hid hblk
        clear hblk
        have hrow9 := (hb9.block _ (lt_of_get hrow)).trans hrow
        have hT9 := hT.grown (grownBy_of_below hb9 (some g)) hrow
        have hG9 := hG.trans (grownBy_of_below hb9 (some g))
        have hrd9 := hK.rd.below hb9
        go_upto_region 10 with (fail)
        have hok := hs_ok L k
        have hmx : ∀ W, Below w9.heap.size w9 W → Calls Tryd.prog 27 #[.agg (u32C (hs L k).l).toList.toArray, .agg (blkC blk)] W fun e w' => e = .returned (.agg (u32C (mixedS (hs L k) blk).l)) ∧ Below W.heap.size W w' := fun W hW => mixed_any _ hok blk hbl W ((hT9.grown (grownBy_of_below hW (some g)) hrow9).1) (by have := hW.size; obtain ⟨_, _, h⟩ := hT9.1; have := lt_of_get h; omega)
        refine sadd10 g wr.heap.size (u32C (hs L k).l).toList (blkC blk) (u32C (mixedS (hs L k) blk).l) (runC true (hs L k) (.slice A r c) (L.length : Int)) w9 (fun W hW j v hj => ?_) size_8 (by rw [show (blkC blk).size = 64 by simp [blkC, u8v, hbl]]; exact size_64b) hmx size_8 (u32C_one _) (show 1 + 8 ≤ 11 by omega) (fun W hW => (hW.block _ (lt_of_get hrow9)).trans hrow9) (fun W hW => (hW.block _ (lt_of_get hx)).trans hx) fun w10 hb10 => ?_
        · rw [cell_of_row _ _ _ _ _ _ ((hW.block _ (lt_of_get hrow9)).trans hrow9)]
          have hj8 : j < 8 := by
            have := (List.getElem?_eq_some_iff.1 hj).1
            simpa [u32C, S8.l] using this
          obtain rfl | rfl | rfl | rfl | rfl | rfl | rfl | rfl : j = 0 ∨ j = 1 ∨ j = 2 ∨ j = 3 ∨ j = 4 ∨ j = 5 ∨ j = 6 ∨ j = 7 := by omega
          all_goals exact hj
        rw [runC_1]
        have hrow10 := (hb10.block _ (lt_of_get hrow9)).trans hrow9
        obtain ⟨w11, hw11⟩ : ∃ w11, w11 = w10.setRow g (runC true (mixedS (hs L k) blk) (.slice A r c) (L.length : Int)) := ⟨_, rfl⟩
        have hrow11 : w11.heap[g]? = some (.cells (runC true (mixedS (hs L k) blk) (.slice A r c) (L.length : Int)) 30 (0, 0)) := by rw [hw11]; exact setRow_heap _ _ _ _ _ _ hrow10
        have hg11 : w10.grownBy w11 (some g) := by rw [hw11]; exact ⟨rfl, rfl, rfl, by simp [World.setRow], fun j _ hj => setRow_other _ _ _ _ (fun e => hj (by rw [e]))⟩
        have hG11 := (hG9.trans (grownBy_of_below hb10 (some g))).trans hg11
        have hT11 := (hT9.grown (grownBy_of_below hb10 (some g)) hrow9).grown hg11 hrow10
        have hrd11 := (hrd9.below hb10).grown hg11 (fun ad e h => (hK.far ad e).2 (Option.some.inj h))
        have hnext : mixedS (hs L k) blk = hs L (k + 1) := by rw [HBK.out]; rfl
        rw [hnext] at hrow11
        rw [← hw11]
        have hKr := hK.rd
        have hKc := hK.nc
        rw [← HR.out] at hKc
        have hKm := hK.cm
        have hKf := hK.far
        clear hw11 hg11 hrow10 hrd9 hT9 hG9 hrow9 hmx hx hnext hok hb9 hb10
        have c11 : w11.cell? ⟨g, 9, none⟩ = some (.slice A r c) := by rw [cell_of_row _ _ _ _ _ _ hrow11]; rfl
        have f11 : w11.frozen? ⟨g, 9, none⟩ = false := frozen_of_row w11 g 9 _ _ hrow11
        have hsub : ∀ W : World, (Instr.slice 22 (.slice A r c) (some (.int .i64 64)) none none).run Tryd.prog W = .ok (.slice (subA A c 64 1) (r - 64) (c - 64)) W := fun W => run_sub_l (P := Tryd.prog) W 22 A r c 1 Tryd.underlying22 (Tryd.sizeOf5 W) 64 64 rfl h64
        obtain ⟨A4, hA4⟩ : ∃ A4, A4 = subA A c 64 1 := ⟨_, rfl⟩
        rw [← hA4] at hsub
        have hrd12 : RdC w11 A4 (u8v (L.drop (64 * (k + 1)))) := by
          have := hrd11.drop c 64 1 (by rw [u8v_length, List.length_drop, ← HR.out]; omega)
          rw [hA4]
          rw [u8v_drop, List.drop_drop] at this
          exact this
        have hfar4 : ∀ ad, A4 = some ad → (64 * (k + 1) < L.length → F ad.block) ∧ ad.block ≠ g := fun ad e => by
          rw [hA4] at e
          unfold subA at e
          split at e
          · exact ⟨fun h1 => (hKf ad e).1 (by omega), (hKf ad e).2⟩
          · obtain ⟨ad', e', rfl⟩ := Option.map_eq_some_iff.1 e
            rw [addr_add_block]
            exact ⟨fun h1 => (hKf ad' e').1 (by omega), (hKf ad' e').2⟩
        have hnil4 : A4 = none → L.length - 64 * (k + 1) = 0 := fun e => by
          rw [hA4] at e
          have : A = none := by
            unfold subA at e
            split at e
            · exact e
            · simpa using e
          have := hK.nil this
          omega
        clear hA4 hrd11
        obtain ⟨w12, hw12⟩ : ∃ w12, w12 = w11.setCell ⟨g, 9, none⟩ (.slice A4 (r - 64) (c - 64)) := ⟨_, rfl⟩
        have hrow12 : w12.heap[g]? = some (.cells (runC true (hs L (k + 1)) (.slice A4 (r - 64) (c - 64)) (L.length : Int)) 30 (0, 0)) := by rw [hw12, heap_setCell_same _ _ _ _ _ _ hrow11, runC_9]
        have hg12 : w11.grownBy w12 (some g) := by rw [hw12]; exact ⟨rfl, rfl, rfl, by simp, fun j _ hj => heap_setCell_other _ _ _ _ (fun e => hj (by rw [e]))⟩
        have hfin : RunF F g true (hs L (k + 1)) L (k + 1) A4 (c - 64) w12 := by
          have e1 : L.length - 64 * (k + 1) = r - 64 := by have := HR.out; omega
          refine ⟨by rw [hrow12, e1], by have := HR.out; omega, by omega, by omega, hrd12.grown hg12 (fun ad e h => (hfar4 ad e).2 (Option.some.inj h)), hnil4, hfar4⟩
        have hT12 := hT11.grown hg12 hrow11
        have hG12 := hG11.trans hg12
        have HW12 := Lib.hid hw12
        have c12 : w12.cell? ⟨g, 9, none⟩ = some (.slice A4 (r - 64) (c - 64)) := by rw [cell_of_row _ _ _ _ _ _ hrow12]; rfl
        have C12 := Lib.hid c12
        clear hw12 hrow12 hg12 hrd12 hT11 hG11 c12 hK
        go_wp2_with fail
        rw [← HW12.out]
        refine ⟨⟨k + 1, A4, c - 64, hfin, hT12, hG12⟩, ?_⟩
        rw [C12.out, c9]
        show r - 64 < r
        omega
      · have hk : k = L.length / 64 := by have := hK.le; omega
        go_wp2_with fail
        go_ret
        refine ⟨rfl, ⟨(fun h => by cases h), A, c, ?_⟩, hG⟩
        rw [← HLL.out]
        rw [hk] at hK
        exact hK
theorem add_any (B g : Nat) (b : Bool) (l : List UInt8) (w : World) (hR0 : RunAt B g b l w) (hBw : B ≤ w.heap.size) (hT0 : TabsOK w) (A2 : Option Addr) (n2 c2 : Nat) (l2 : List UInt8) (hn2 : l2.length = n2) (hnc : n2 ≤ c2) (hr20 : RdC w A2 (u8v l2)) (hA2 : ∀ ad, A2 = some ad → ad.block ≠ g ∨ l2 = []) (hlen : l.length + n2 ≤ 1000000) :
    Calls Tryd.prog 9 #[.pointer (some ⟨g, 0, none⟩), .slice A2 n2 c2] w fun e w' => e = .returned (.pointer (some ⟨g, 0, none⟩)) ∧ RunAt B g true (l ++ l2) w' ∧ w.grownBy w' (some g) :=
  add_anyF (fun x => B ≤ x) g b l w hR0 (fun x h => Nat.le_trans hBw h) hT0 A2 n2 c2 l2 hn2 hnc hr20 hA2 hlen
end Go.Proofs.YtcdnbidenaljlaaDoor

/- hash: Sum. -/
namespace Go.Proofs.YtcdnbidenaljlaaDoor
open Go.RowKit

theorem made_u8 (n : Nat) : (madeCells #[.int .u8 0] n).toList = u8v (List.replicate n 0) := by
  refine List.ext_getElem (by simp [madeCells, u8v]) fun j h1 h2 => ?_
  simp [madeCells, u8v, Nat.mod_one]
theorem mk_bytes (n : Nat) (h : n ≤ 1000000) : ∃ O : Obj, O = .cells (u8v (List.replicate n 0)).toArray 5 ∧ ∀ W : World, (Instr.makeSlice 22 (.int .i64 (n : Int)) (.int .i64 (n : Int))).run Tryd.prog W = .ok (.slice (some ⟨W.heap.size, 0, none⟩) n n) (W.alloc O) := by
  obtain ⟨i0, hi, hz0, hz1, hz2⟩ := info_parts elt8.hi
  refine ⟨_, rfl, fun W => ?_⟩
  have := run_make (P := Tryd.prog) W 22 5 i0 (.int .u8 0) Tryd.underlying22 hi hz0 .i64 .i64 n n (by omega) (Int.le_refl _) (by rw [hz2]; omega) (by omega)
  simp only [Int.toNat_natCast] at this
  rw [this, hz1, Nat.mul_one, ← made_u8 n]
  rfl
theorem zero_run : (Tryd.prog.info? 30).bind (fun i => i.zero.map Value.cells) = some (runC false S8.zero (.slice none 0 0) 0) := by kernel_rfl
theorem size_run : (Tryd.prog.info? 30).map (·.size) = some 11 := by kernel_rfl
theorem be_byte (n d : Nat) : ((UInt8.ofNat (n / d)).toNat : Int) = ((n : Int) / (d : Int)) % 256 := by
  rw [UInt8.toNat_ofNat']
  omega
theorem RunAtF.below {F : Nat → Prop} {g : Nat} {b : Bool} {l : List UInt8} {w W : World} (h : RunAtF F g b l w) (hb : Below w.heap.size w W) : RunAtF F g b l W := by
  obtain ⟨h1, A, c, h2⟩ := h
  exact ⟨h1, A, c, (hb.block _ (lt_of_get h2.row)).trans h2.row, h2.le, h2.nc, h2.cm, h2.rd.below hb, h2.nil, h2.far⟩
def bytesK (s : S8) (k : Nat) : List UInt8 := s.bytes.take (4 * k) ++ List.replicate (32 - 4 * k) 0
theorem bytes_len (s : S8) : s.bytes.length = 32 := rfl
theorem bytesK_length (s : S8) (k : Nat) (h : k ≤ 8) : (bytesK s k).length = 32 := by
  unfold bytesK
  rw [List.length_append, List.length_take, List.length_replicate, bytes_len]
  omega
theorem bytesK_full (s : S8) : bytesK s 8 = s.bytes := rfl
theorem bytesK_step (s : S8) (k : Nat) (h : k < 8) : splice (u8v (bytesK s k)) (4 * k) (u8v (be4 (s.l.getD k 0))) = u8v (bytesK s (k + 1)) := by
  obtain rfl | rfl | rfl | rfl | rfl | rfl | rfl | rfl : k = 0 ∨ k = 1 ∨ k = 2 ∨ k = 3 ∨ k = 4 ∨ k = 5 ∨ k = 6 ∨ k = 7 := by omega
  all_goals rfl
theorem slice_id (g k : Nat) (hk : k < 8) (W : World) : (Instr.sliceAt 25 (.pointer (some ⟨g, 0, none⟩)) (some (.int .i64 (4 * (k : Int)))) none none).run Tryd.prog W = .ok (.slice (some ⟨g, 4 * k, none⟩) (32 - 4 * k) (32 - 4 * k)) W := by
  obtain rfl | rfl | rfl | rfl | rfl | rfl | rfl | rfl : k = 0 ∨ k = 1 ∨ k = 2 ∨ k = 3 ∨ k = 4 ∨ k = 5 ∨ k = 6 ∨ k = 7 := by omega
  all_goals kernel_rfl
theorem be8_snoc (m k : Nat) (h : k < 8) : (be8 m).take (k + 1) = (be8 m).take k ++ [UInt8.ofNat (m / 2 ^ (56 - 8 * k))] := by
  obtain rfl | rfl | rfl | rfl | rfl | rfl | rfl | rfl : k = 0 ∨ k = 1 ∨ k = 2 ∨ k = 3 ∨ k = 4 ∨ k = 5 ∨ k = 6 ∨ k = 7 := by omega
  all_goals simp [be8]
set_option maxRecDepth 100000 in
set_option maxHeartbeats 2000000 in
theorem sum_both (rv : Value) (b : Bool) (l : List UInt8) (w : World) (hRv : (rv = .pointer none ∧ b = false ∧ l = []) ∨ ∃ F g, rv = .pointer (some ⟨g, 0, none⟩) ∧ RunAtF F g b l w) (hT : TabsOK w) (hlen : l.length ≤ 900000) :
    Calls Tryd.prog 10 #[rv] w fun e w' => e = .returned (.agg (idC (sha l))) ∧ Below w.heap.size w w' := by
  obtain ⟨Z, hZ0, hZ⟩ : ∃ Z : Array Value, (Tryd.prog.info? 25).bind (fun i => i.zero.map Value.cells) = some Z ∧ Hid (Z = idC zeros) := ⟨_, zero_id, rfl⟩
  obtain ⟨ZR, hZR0, hZRs, hZR⟩ : ∃ Z : Array Value, (Tryd.prog.info? 30).bind (fun i => i.zero.map Value.cells) = some Z ∧ Z.size = 11 ∧ Hid (Z = runC false S8.zero (.slice none 0 0) 0) := ⟨_, zero_run, rfl, rfl⟩
  obtain ⟨w1, hw1⟩ : ∃ w1, w1 = (w.alloc (.cells Z 25)).alloc (.cells ZR 30) := ⟨_, rfl⟩
  have hb1 : Below w.heap.size w w1 := by rw [hw1]; exact ((Below.refl _ w).alloc (Nat.le_refl _) _).alloc (by simp) _
  have q0 : w1.heap[w.heap.size]? = some (.cells Z 25 (0, 0)) := by rw [hw1]; exact heap_alloc2_old _ _ _
  have q1 : w1.heap[w.heap.size + 1]? = some (.cells ZR 30 (0, 0)) := by rw [hw1]; exact heap_alloc2_new _ _ _
  have z1 : w1.heap.size = w.heap.size + 2 := by rw [hw1]; simp
  have HW1 := Lib.hid hw1
  have Z1 := Lib.hid z1
  clear hw1 z1
  have hTg0 : ∀ W, Below w.heap.size w W → TabsOK W := fun W hb => hT.below hb
  rcases hRv with ⟨rfl, rfl, hl0⟩ | ⟨F, g, rfl, hR⟩
  case' inl =>
    have HL0 := Lib.hid hl0
    clear hl0
    go_enter Tryd.func10, Tryd.ntmps10
    go_upto_region 5 with (first
      | (with_reducible refine wpList_alloc_z rfl 25 rfl Z hZ0 ?_)
      | (with_reducible refine wpList_alloc_z rfl 30 rfl ZR hZR0 ?_)
      | fail)
    rw [← HW1.out]
    obtain ⟨w4, hw4⟩ : ∃ w4, w4 = w1 := ⟨_, rfl⟩
    rw [← hw4]
    have hb4 : Below w.heap.size w w4 := by rw [hw4]; exact hb1
    have hz4 : w.heap.size + 2 ≤ w4.heap.size := by rw [hw4, Z1.out]; omega
    have q04 : w4.heap[w.heap.size]? = some (.cells Z 25 (0, 0)) := by rw [hw4]; exact q0
    have hRA : RunAt w.heap.size (w.heap.size + 1) false l w4 := by
      rw [HL0.out]
      exact ⟨fun _ => rfl, none, 0, by rw [hw4, q1, hZR.out]; rfl, by decide, by decide, by unfold maxLen; omega, RdC.nil _ _, fun _ => rfl, fun ad e => by cases e⟩
    clear hw4 HW1 Z1 hb1 q0 q1 hZR0 hZRs hZR hT
  case' inr =>
    obtain ⟨hbl, A, c, hR⟩ := hR
    have hrow := hR.row
    obtain ⟨V, hV, hVs, hV1⟩ : ∃ V : Array Value, Hid (V = runC b (stOf b l) (.slice A (l.length - 64 * (l.length / 64)) c) (l.length : Int)) ∧ V.size = 11 ∧ (∀ u ∈ V.toList, u.oneCell' = true) := ⟨_, rfl, rfl, by simp [runC, Value.oneCell']⟩
    have hVi : (Tryd.prog.info? 30).map (·.size) = some V.size := by rw [hVs]; exact size_run
    have hVz : V.size = ZR.size := by rw [hVs, hZRs]
    have hrow1 := (hb1.block _ (lt_of_get hrow)).trans hrow
    have hlt := lt_of_get hrow
    have hcl := clone_any A (l.length - 64 * (l.length / 64)) c (l.drop (64 * (l.length / 64))) (by rw [List.length_drop]) hR.nc (by omega)
    rw [← hV.out] at hrow1
    obtain ⟨w2, hw2⟩ : ∃ w2, w2 = w1.setRow (w.heap.size + 1) V := ⟨_, rfl⟩
    have hb2 : Below w.heap.size w w2 := by rw [hw2]; exact below_setRow hb1 (by omega) V
    have q12 : w2.heap[w.heap.size + 1]? = some (.cells V 30 (0, 0)) := by rw [hw2]; exact setRow_heap _ _ _ _ _ _ q1
    have q02 : w2.heap[w.heap.size]? = some (.cells Z 25 (0, 0)) := by rw [hw2, setRow_other _ _ _ _ (by omega)]; exact q0
    have z2 : w2.heap.size = w.heap.size + 2 := by rw [hw2]; simp [World.setRow, Z1.out]
    have c9 : w2.cell? ⟨g, 9, none⟩ = some (.slice A (l.length - 64 * (l.length / 64)) c) := by
      rw [cell_of_row _ _ _ _ _ _ ((hb2.block _ hlt).trans hrow)]
      rfl
    have HW2 := Lib.hid hw2
    have Z2 := Lib.hid z2
    have hrd := hR.rd.below hb2
    obtain ⟨r, hr⟩ : ∃ r, r = l.length - 64 * (l.length / 64) := ⟨_, rfl⟩
    rw [← hr] at c9 hcl
    have HR := Lib.hid hr
    clear hw2 z2 hr
    go_enter Tryd.func10, Tryd.ntmps10
    go_upto_region 4 with (first
      | (with_reducible refine wpList_alloc_z rfl 25 rfl Z hZ0 ?_)
      | (with_reducible refine wpList_alloc_z rfl 30 rfl ZR hZR0 ?_; rw [← HW1.out])
      | (with_reducible refine wpList_load_row rfl 30 (.tmp 13) rfl _ rfl 30 V _ _ hrow1 Tryd.underlying30 rfl hVi ?_)
      | (with_reducible refine wpList_store_z rfl 30 (.tmp 3) (.tmp 14) rfl _ rfl V rfl ZR _ q1 hVz hVi hV1 ?_)
      | fail)
    rw [← HW2.out]
    go_upto_region 5 with (first
      | (go_at_call 28; go_loud (refine (hcl w2 hrd).mono ?_; rintro e w3 ⟨v3, rfl, ho3, hb3⟩; obtain ⟨A3, c3, rfl, k1, k2, k3, k4⟩ := RdC.of_own ho3; have q13 := (hb3.block _ (lt_of_get q12)).trans q12; have hc13 : w3.cell? ⟨w.heap.size + 1, 9, none⟩ = some (.slice A r c) := (by rw [cell_of_row _ _ _ _ _ _ q13, hV.out, ← HR.out]; rfl); have f13 : w3.frozen? ⟨w.heap.size + 1, 9, none⟩ = false := frozen_of_row w3 _ 9 _ _ q13))
      | fail)
    obtain ⟨w4, hw4⟩ : ∃ w4, w4 = w3.setCell ⟨w.heap.size + 1, 9, none⟩ (.slice A3 r c3) := ⟨_, rfl⟩
    rw [← hw4]
    have hg4 : w3.grownBy w4 (some (w.heap.size + 1)) := by rw [hw4]; exact ⟨rfl, rfl, rfl, by simp, fun j _ hj => heap_setCell_other _ _ _ _ (fun e => hj (by rw [e]))⟩
    have hb4 : Below w.heap.size w w4 := by rw [hw4]; exact (below_then hb2 hb3 (by have := Z2.out; omega)).setCell (p := ⟨w.heap.size + 1, 9, none⟩) (show w.heap.size ≤ w.heap.size + 1 by omega) _
    have hz4 : w.heap.size + 2 ≤ w4.heap.size := by have := hg4.size; have := hb3.size; have := Z2.out; omega
    have q04 : w4.heap[w.heap.size]? = some (.cells Z 25 (0, 0)) := by rw [hw4, heap_setCell_other _ _ _ _ (by simp)]; exact (hb3.block _ (lt_of_get q02)).trans q02
    have hRc : RunK w.heap.size (w.heap.size + 1) b (stOf b l) l (l.length / 64) A3 c3 w4 := by
      have hne : ∀ ad, A3 = some ad → w.heap.size ≤ ad.block ∧ ad.block ≠ w.heap.size + 1 := fun ad e => by have := k4 ad e; have := Z2.out; omega
      refine ⟨?_, hR.le, by rw [← HR.out]; exact k1, k2, k3.grown hg4 (fun ad e h => (hne ad e).2 (Option.some.inj h)), fun e => ?_, fun ad e => ⟨fun _ => (hne ad e).1, (hne ad e).2⟩⟩
      · rw [hw4, heap_setCell_same _ _ _ _ _ _ q13, hV.out, runC_9, ← HR.out]
      · subst e
        rcases ho3.2 with ⟨_, h⟩ | ⟨g', cap, cur, h, _⟩
        · rw [← HR.out]; exact h
        · cases h
    have hRA : RunAt w.heap.size (w.heap.size + 1) b l w4 := ⟨hbl, _, _, hRc⟩
    clear hw4 hg4 hRc hR hrow hV hVs hV1 hVi hVz hrow1 hlt hcl hb2 q12 q02 c9 HW2 Z2 hrd HR HW1 Z1 hb1 q0 q1 hZR0 hZRs hZR k1 k2 k3 k4 ho3 hb3 q13 hc13 f13 hT
  all_goals
    have hTg : TabsOK w4 := hTg0 w4 hb4
    obtain ⟨hbl', A', c', hRc⟩ := id hRA
    have hrc := hRc.row
    have c10 : w4.cell? ⟨w.heap.size + 1, 10, none⟩ = some (.int .i64 (l.length : Int)) := by rw [cell_of_row _ _ _ _ _ _ hrc]; rfl
    clear hRc hbl' hrc
    obtain ⟨n, hn⟩ : ∃ n, n = l.length := ⟨_, rfl⟩
    obtain ⟨z, hz⟩ : ∃ z, z = noughts n := ⟨_, rfl⟩
    have hz64 : z < 64 := by rw [hz]; unfold noughts; omega
    have hz1 := Lib.hid (show (119 - (n : Int)) % 64 = (z : Int) by rw [hz]; unfold noughts; omega)
    have hz2 := Lib.hid (show (119 - (n : Int) % 64) % 64 = (z : Int) by rw [hz]; unfold noughts; omega)
    have hzI : (1 : Int) + (119 - (n : Int)) % 64 = ((1 + z : Nat) : Int) := by have := hz1.out; omega
    rw [← hn] at c10 hlen
    obtain ⟨O, hO, hmk⟩ := mk_bytes (1 + z) (by omega)
    rw [← hzI] at hmk
    have HN := Lib.hid hn
    have HZ := Lib.hid hz
    have HO := Lib.hid hO
    clear hn hz hO hzI
    go_upto_region 7 with (fail)
    rw [hz2.out, hz1.out]
    obtain ⟨w5, hw5⟩ : ∃ w5, w5 = w4.alloc O := ⟨_, rfl⟩
    have q5 : w5.heap[w4.heap.size]? = some (.cells (u8v (List.replicate (1 + z) 0)).toArray 5 (0, 0)) := by rw [hw5, HO.out]; exact heap_alloc_new _ _
    have hb5 : Below w4.heap.size w4 w5 := by rw [hw5]; exact (Below.refl _ _).alloc (Nat.le_refl _) _
    have c50 : w5.cell? ⟨w4.heap.size, 0, none⟩ = some (.int .u8 0) := by
      rw [cell_of_row _ _ _ _ _ _ q5, Nat.add_comm 1 z, List.replicate_succ]
      rfl
    have f50 : w5.frozen? ⟨w4.heap.size, 0, none⟩ = false := frozen_of_row w5 _ 0 _ _ q5
    have h1z : 0 < 1 + z := by omega
    rw [← hw5]
    obtain ⟨w6, hw6⟩ : ∃ w6, w6 = w5.setCell ⟨w4.heap.size, 0, none⟩ (.int .u8 128) := ⟨_, rfl⟩
    have q6 : w6.heap[w4.heap.size]? = some (.cells (u8v (128 :: List.replicate z 0)).toArray 5 (0, 0)) := by
      rw [hw6, heap_setCell_same _ _ _ _ _ _ q5, Nat.add_comm 1 z, List.replicate_succ]
      rfl
    have hb6 : Below w4.heap.size w4 w6 := by rw [hw6]; exact hb5.setCell (p := ⟨w4.heap.size, 0, none⟩) (Nat.le_refl _) _
    have ho6 : w6.ownsRow w4.heap.size 5 1 (.slice (some ⟨w4.heap.size, 0, none⟩) (1 + z) (1 + z)) (1 + z) (u8v (128 :: List.replicate z 0)) := by
      have hl : (u8v (128 :: List.replicate z 0)).length = (1 + z) * 1 := by rw [u8v_length, List.length_cons, List.length_replicate]; omega
      exact ⟨hl, .inr ⟨_, 1 + z, _, rfl, Nat.le_refl _, q6, Nat.le_refl _, by unfold maxLen; omega, by simpa using hl, List.take_of_length_le (by simpa using Nat.le_of_eq hl)⟩⟩
    have HW6 := Lib.hid hw6
    clear hz1 hz2 hw6 hw5 hmk q5 hb5 q6 c10
    go_upto_region 8 with (fail)
    rw [← HW6.out]
    go_wp2_with fail
    go_loopw [5, 6] (fun t i wr => ∃ (k s : Nat), k ≤ 8 ∧ s + 8 * k = 64 ∧ i = .int .i64 ((s : Int) - 8) ∧ wr.ownsRow w4.heap.size 5 1 t (1 + z + k) (u8v (128 :: List.replicate z 0 ++ (be8 (8 * n)).take k)) ∧ Below w4.heap.size w4 wr) (fun _ i _ => (intOf i + 8).toNat)
    case atStart => exact ⟨0, 64, by omega, by omega, rfl, by rw [List.take_zero, List.append_nil]; exact ho6, hb6⟩
    case round =>
      obtain ⟨k, s, hk, hs, rfl, hown, hbr⟩ := hrel
      clear ho6 hb6 HW6 c50 f50
      by_cases hlt : k < 8
      · obtain ⟨s, rfl⟩ : ∃ s', s = s' + 8 := ⟨s - 8, by omega⟩
        have e8 : (((s + 8 : Nat) : Int) - 8) = (s : Int) := by omega
        rw [e8]
        have hs56 : s = 56 - 8 * k := by omega
        have hby := be8_snoc (8 * n) k hlt
        rw [← hs56] at hby
        have hs0 : (0 : Int) ≤ (s : Int) := by omega
        have hs64 : s < 64 := by omega
        obtain ⟨y, hy⟩ : ∃ y, y = UInt8.ofNat (8 * n / 2 ^ s) := ⟨_, rfl⟩
        have hv : (n : Int) * 8 / 2 ^ s % 256 = (y.toNat : Int) := by
          rw [hy, UInt8.toNat_ofNat']
          rw [Int.natCast_emod, Int.natCast_ediv, Int.natCast_mul, Int.natCast_pow, Int.mul_comm]
          rfl
        rw [← hy] at hby
        have HBY := Lib.hid hby
        obtain ⟨wx, hwx⟩ : ∃ wx, wx = wr.alloc (.cells #[.int .u8 (y.toNat : Int)] 5) := ⟨_, rfl⟩
        have hbx : Below wr.heap.size wr wx := by rw [hwx]; exact (Below.refl _ _).alloc (Nat.le_refl _) _
        have hox := own_below hown hbx
        have hrx : RdC wx (some ⟨wr.heap.size, 0, none⟩) (u8v [y]) := fun j u hj => by
          refine ⟨_, rfl, ?_⟩
          have hg : wx.heap[wr.heap.size]? = some (.cells #[.int .u8 (y.toNat : Int)] 5 (0, 0)) := by rw [hwx]; exact heap_alloc_new _ _
          rw [addr_add_plain, Nat.zero_add, cell_of_row _ _ _ _ _ _ hg, ← hj, ← Array.getElem?_toList]
          rfl
        have hsx := below_then hbr hbx (by have := hbr.size; omega)
        have HWX := Lib.hid hwx
        clear hs56 e8 hby hy hwx
        go_wp2_with (first
          | (at_builtin; go_loud (rw [← HWX.out]; refine wpList_app elt8 rfl (.tmp 38) (.tmp 43) rfl w4.heap.size _ (1 + z + k) (u8v (128 :: List.replicate z 0 ++ (be8 (8 * n)).take k)) rfl hox (some ⟨wr.heap.size, 0, none⟩) 1 1 (u8v [y]) rfl rfl hrx (u8v_one _) (by unfold maxLen; omega) (by omega) hsx.size ?_; intro v' w' ho hg; have hbn := below_grown hsx hox hg hsx.size (Nat.le_refl _)))
          | fail)
        have hs2 : s + 8 * (k + 1) = 64 := by omega
        have ho2 : w'.ownsRow w4.heap.size 5 1 v' (1 + z + (k + 1)) (u8v (128 :: List.replicate z 0 ++ (be8 (8 * n)).take (k + 1))) := by
          rw [HBY.out, ← List.append_assoc, u8v_append]; exact ho
        clear ho hg hbx hox hrx hsx hs
        go_roundw
        case rel =>
          exact ⟨k + 1, s, by omega, hs2, rfl, ho2, hbn⟩
        case measure => simp [intOf]; omega
      · obtain rfl : k = 8 := by omega
        obtain rfl : s = 0 := by omega
        obtain ⟨A5, c5, rfl, p1, p2, p3, p4⟩ := RdC.of_own hown
        have hRAr := hRA.below hbr
        have hTr := hTg0 wr (below_then hb4 hbr (by have := hb4.size; omega))
        have hsz := hbr.size
        have hadd := add_any w.heap.size (w.heap.size + 1) _ l wr hRAr (by omega) hTr A5 (1 + z + 8) c5 (128 :: List.replicate z 0 ++ (be8 (8 * n)).take 8) (by simp [be8]; omega) p1 p3 (fun ad e => .inl (by have := p4 ad e; omega)) (by rw [← HN.out]; omega)
        have htl : 128 :: List.replicate z 0 ++ (be8 (8 * n)).take 8 = tailB l.length := by rw [← HN.out, HZ.out]; rfl
        rw [htl] at hadd
        have hb0r := below_then hb4 hbr (by have := hb4.size; omega)
        have q0r := (hbr.block _ (lt_of_get q04)).trans q04
        clear p1 p2 p3 p4 hown hTr hRA hRAr hbr hb4
        go_upto_region 13 with (first
          | (go_at_call 9; refine hadd.mono ?_; rintro e w7 ⟨rfl, hR7, hg7⟩)
          | fail)
        have q07 := (hg7.block _ (lt_of_get q0r) (by simp)).trans q0r
        have hb07 : Below w.heap.size w w7 := ⟨hg7.os.trans hb0r.os, hg7.tape.trans hb0r.tape, hg7.output.trans hb0r.output, Nat.le_trans hb0r.size hg7.size, fun j hj => (hg7.block j (by have := hb0r.size; omega) (by simp; omega)).trans (hb0r.block j hj)⟩
        obtain ⟨_, A7, c7, hK7⟩ := hR7
        have q17 := hK7.row
        obtain ⟨st, hst⟩ : ∃ st, st = stOf true (l ++ tailB l.length) := ⟨_, rfl⟩
        rw [← hst] at q17
        have hsha : sha l = st.bytes := by rw [hst]; rfl
        have HSH := Lib.hid hsha
        obtain ⟨w8, hw8⟩ : ∃ w8, w8 = w7.alloc (.cells Z 25) := ⟨_, rfl⟩
        have hb8 : Below w7.heap.size w7 w8 := by rw [hw8]; exact (Below.refl _ _).alloc (Nat.le_refl _) _
        have q08 := (hb8.block _ (lt_of_get q07)).trans q07
        have q18 := (hb8.block _ (lt_of_get q17)).trans q17
        have qi8 : w8.heap[w7.heap.size]? = some (.cells Z 25 (0, 0)) := by rw [hw8]; exact heap_alloc_new _ _
        have hb08 : Below w.heap.size w w8 := below_then hb07 hb8 (Nat.le_refl _)
        have hrg : w8.rangeAt (w.heap.size + 1) 1 (u32C st.l).toList := fun j v hj => by
          rw [cell_of_row _ _ _ _ _ _ q18]
          have hj8 : j < 8 := by
            have := (List.getElem?_eq_some_iff.1 hj).1
            simpa [u32C, S8.l] using this
          obtain rfl | rfl | rfl | rfl | rfl | rfl | rfl | rfl : j = 0 ∨ j = 1 ∨ j = 2 ∨ j = 3 ∨ j = 4 ∨ j = 5 ∨ j = 6 ∨ j = 7 := by omega
          all_goals exact hj
        have hsz7 : w.heap.size + 1 < w7.heap.size := lt_of_get q17
        have HW8 := Lib.hid hw8
        have hrl : (Tryd.prog.info? 28).map (·.size) = some (u32C st.l).toList.length := size_8
        clear hw8 hst hsha hK7 q17 q07 hb07 hb8 hg7 q0r hb0r
        go_upto_region 14 with (first
          | (with_reducible refine wpList_alloc_z rfl 25 rfl Z hZ0 ?_)
          | fail)
        rw [← HW8.out]
        go_wp2_with (first
          | (with_reducible refine wpList_load_mid rfl 28 (.tmp 47) rfl (w.heap.size + 1) 1 rfl (u32C st.l).toList _ hrg Tryd.underlying28 rfl hrl ?_)
          | fail)
        rw [hZ.out] at qi8
        go_loopw [49] (fun i wr => ∃ k : Nat, k ≤ 8 ∧ i = .int .i64 (k : Int) ∧ wr.heap[w7.heap.size]? = some (.cells (idC (bytesK st k)) 25 (0, 0)) ∧ wr.heap[w.heap.size]? = some (.cells Z 25 (0, 0)) ∧ Below w.heap.size w wr) (fun i _ => 8 - (intOf i).toNat)
        case atStart => exact ⟨0, by omega, rfl, qi8, q08, hb08⟩
        case round =>
          obtain ⟨k, hk, rfl, gi, g0, gb⟩ := hrel
          clear qi8 q08 hb08 q18 hrg
          by_cases hlt : k < 8
          · have hix : ∀ W, (Instr.index 28 (.agg (u32C st.l)) (.int .i64 (k : Int))).run Tryd.prog W = .ok (.int .u32 (st.l.getD k 0 : Nat)) W := fun W => run_index_agg (P := Tryd.prog) W 28 27 8 .i64 (k : Int) (u32C st.l) _ Tryd.underlying28 (by kernel_rfl) (Tryd.isAgg27 W) (by omega) (by omega) (u32C_get _ _ hlt)
            have hki : (k : Int) < 8 := by omega
            have hsl := slice_id w7.heap.size k hlt
            have hstep := bytesK_step st k hlt
            generalize st.l.getD k 0 = x at *
            obtain ⟨y0, hy0⟩ : ∃ y, y = UInt8.ofNat (x / 16777216) := ⟨_, rfl⟩
            obtain ⟨y1, hy1⟩ : ∃ y, y = UInt8.ofNat (x / 65536) := ⟨_, rfl⟩
            obtain ⟨y2, hy2⟩ : ∃ y, y = UInt8.ofNat (x / 256) := ⟨_, rfl⟩
            obtain ⟨y3, hy3⟩ : ∃ y, y = UInt8.ofNat x := ⟨_, rfl⟩
            have v0 : (x : Int) / 16777216 % 256 = (y0.toNat : Int) := by rw [hy0, UInt8.toNat_ofNat']; omega
            have v1 : (x : Int) / 65536 % 256 = (y1.toNat : Int) := by rw [hy1, UInt8.toNat_ofNat']; omega
            have v2 : (x : Int) / 256 % 256 = (y2.toNat : Int) := by rw [hy2, UInt8.toNat_ofNat']; omega
            have v3 : (x : Int) % 256 = (y3.toNat : Int) := by rw [hy3, UInt8.toNat_ofNat']; omega
            have hbe : be4 x = [y0, y1, y2, y3] := by unfold be4; rw [hy0, hy1, hy2, hy3]
            rw [hbe] at hstep
            have HST := Lib.hid hstep
            clear hstep hbe hy0 hy1 hy2 hy3
            obtain ⟨wx, hwx⟩ : ∃ wx, wx = wr.alloc (.cells #[.int .u8 (y0.toNat : Int), .int .u8 (y1.toNat : Int), .int .u8 (y2.toNat : Int), .int .u8 (y3.toNat : Int)] 5) := ⟨_, rfl⟩
            have hbx : Below wr.heap.size wr wx := by rw [hwx]; exact (Below.refl _ _).alloc (Nat.le_refl _) _
            have hgx : wx.heap[wr.heap.size]? = some (.cells #[.int .u8 (y0.toNat : Int), .int .u8 (y1.toNat : Int), .int .u8 (y2.toNat : Int), .int .u8 (y3.toNat : Int)] 5 (0, 0)) := by rw [hwx]; exact heap_alloc_new _ _
            have gix := (hbx.block _ (lt_of_get gi)).trans gi
            have HWX := Lib.hid hwx
            have hbx' : Below w7.heap.size wr wx := hbx.mono (Nat.le_of_lt (lt_of_get gi))
            have hmin : Nat.min 4 (32 - 4 * k) = 4 := Nat.min_eq_left (by omega)
            have hcs : (u8v [y0, y1, y2, y3]).length = Nat.min 4 (32 - 4 * k) := by rw [hmin]; rfl
            have hfit : 4 * k + (u8v [y0, y1, y2, y3]).length ≤ (u8v (bytesK st k)).length := by rw [u8v_length, u8v_length, bytesK_length _ _ hk]; show 4 * k + 4 ≤ 32; omega
            have hpos : 0 < (u8v [y0, y1, y2, y3]).length → (some (⟨w7.heap.size, 4 * k, none⟩ : Addr)) = some ⟨w7.heap.size, 4 * k, none⟩ ∧ ∃ ad, (some (⟨wr.heap.size, 0, none⟩ : Addr)) = some ad ∧ ∀ j v, (u8v [y0, y1, y2, y3])[j]? = some v → wx.cell? (ad.add j) = some v := fun _ => ⟨rfl, _, rfl, fun j v hj => by
              rw [addr_add_plain, Nat.zero_add, cell_of_row _ _ _ _ _ _ hgx, ← hj, ← Array.getElem?_toList]
              rfl⟩
            have hb7 : w.heap.size + 2 ≤ w7.heap.size := by omega
            have HC := Lib.hid hcs
            clear hwx hmin hcs
            have hgx' : wx.heap[w7.heap.size]? = some (.cells (u8v (bytesK st k)).toArray 25 (0, 0)) := gix
            go_wp2_with (first
              | (rw [← HWX.out]; refine wpList_copy_splice rfl (.tmp 55) (.tmp 67) 22 22 rfl 5 Tryd.underlying22 (by kernel_rfl) (some ⟨w7.heap.size, 4 * k, none⟩) (some ⟨wr.heap.size, 0, none⟩) (32 - 4 * k) (32 - 4 * k) 4 4 rfl rfl w7.heap.size (4 * k) (u8v (bytesK st k)) 25 hgx' (u8v [y0, y1, y2, y3]) HC.out hpos hfit (u8v_one _) w7.heap.size wr hbx' (Nat.le_refl _) ?_; intro wn hgn hbn)
              | fail)
            have gin := hgn.out
            rw [HST.out] at gin
            have g0n := (hbn.block _ (by omega)).trans g0
            have gbn : Below w.heap.size w wn := ⟨hbn.os.trans gb.os, hbn.tape.trans gb.tape, hbn.output.trans gb.output, Nat.le_trans gb.size hbn.size, fun j hj => (hbn.block j (by omega)).trans (gb.block j hj)⟩
            exact ⟨⟨k + 1, by omega, rfl, gin, g0n, gbn⟩, by simp [intOf]; omega⟩
          · obtain rfl : k = 8 := by omega
            rw [bytesK_full, ← HSH.out] at gi
            obtain ⟨D, hD, hDs, hD1⟩ : ∃ D : Array Value, Hid (D = idC (sha l)) ∧ D.size = 32 ∧ (∀ u ∈ D.toList, u.oneCell' = true) := ⟨_, rfl, by rw [idC_size]; rfl, by simpa [idC] using u8v_one (sha l)⟩
            rw [← hD.out] at gi
            have hDi : (Tryd.prog.info? 25).map (·.size) = some D.size := by rw [hDs]; exact size_id
            have hDz : D.size = Z.size := by rw [hDs, hZ.out, idC_size]; rfl
            have gr := setRow_heap wr w.heap.size _ D _ _ g0
            have gbr := below_setRow gb (Nat.le_refl w.heap.size) D
            go_wp2_with (first
              | (with_reducible refine wpList_load_row rfl 25 (.tmp 7) rfl _ rfl 25 D _ _ gi Tryd.underlying25 rfl hDi ?_)
              | (with_reducible refine wpList_store_z rfl 25 (.tmp 2) (.tmp 70) rfl _ rfl D rfl Z _ g0 hDz hDi hD1 ?_)
              | fail)
            exact bodyPost_ret (results_cell_row rfl _ _ w.heap.size 25 D (0, 0) _ rfl gr Tryd.underlying25 rfl hDi) rfl ⟨by rw [hD.out], gbr⟩
theorem sum_anyF (F : Nat → Prop) (g : Nat) (b : Bool) (l : List UInt8) (w : World) (hR : RunAtF F g b l w) (hT : TabsOK w) (hlen : l.length ≤ 900000) :
    Calls Tryd.prog 10 #[.pointer (some ⟨g, 0, none⟩)] w fun e w' => e = .returned (.agg (idC (sha l))) ∧ Below w.heap.size w w' := sum_both _ b l w (.inr ⟨F, g, rfl, hR⟩) hT hlen
theorem sum_any (B g : Nat) (b : Bool) (l : List UInt8) (w : World) (hR : RunAt B g b l w) (hT : TabsOK w) (hlen : l.length ≤ 900000) :
    Calls Tryd.prog 10 #[.pointer (some ⟨g, 0, none⟩)] w fun e w' => e = .returned (.agg (idC (sha l))) ∧ Below w.heap.size w w' := sum_anyF _ g b l w hR hT hlen
theorem sum_nil (w : World) (hT : TabsOK w) :
    Calls Tryd.prog 10 #[.pointer none] w fun e w' => e = .returned (.agg (idC (sha []))) ∧ Below w.heap.size w w' := sum_both _ false [] w (.inl ⟨rfl, rfl, rfl⟩) hT (by simp)
end Go.Proofs.YtcdnbidenaljlaaDoor

/- hash: Of. -/
namespace Go.Proofs.YtcdnbidenaljlaaDoor
open Go.RowKit

/-- A slice of bytes, as a value, and what it reads. -/
structure SlB where
  A : Option Addr
  n : Nat
  c : Nat
  l : List UInt8
def SlB.val (s : SlB) : Value := .slice s.A s.n s.c
def SlB.ok (w : World) (s : SlB) : Prop := s.l.length = s.n ∧ s.n ≤ s.c ∧ RdC w s.A (u8v s.l)
theorem SlB.ok.below {w W : World} {s : SlB} (h : s.ok w) (hb : Below w.heap.size w W) : s.ok W := ⟨h.1, h.2.1, h.2.2.below hb⟩
def flat (L : List SlB) : List UInt8 := (L.map SlB.l).flatten
theorem flat_snoc (L : List SlB) (k : Nat) (h : k < L.length) : flat (L.take (k + 1)) = flat (L.take k) ++ L[k].l := by
  unfold flat
  rw [List.take_succ_eq_append_getElem h, List.map_append, List.flatten_append]
  simp
theorem flat_take_le (L : List SlB) (k : Nat) : (flat (L.take k)).length ≤ (flat L).length := by
  unfold flat
  conv => rhs; rw [← List.take_append_drop k L]
  rw [List.map_append, List.flatten_append, List.length_append]
  omega
set_option maxRecDepth 100000 in
set_option maxHeartbeats 1000000 in
theorem of_any (A : Option Addr) (n c : Nat) (L : List SlB) (hL : L.length = n) (hn : n ≤ 1000000) (w : World) (hr : RdC w A (L.map SlB.val)) (hok : ∀ s ∈ L, s.ok w) (hT : TabsOK w) (hlen : (flat L).length ≤ 800000) :
    Calls Tryd.prog 11 #[.slice A n c] w fun e w' => e = .returned (.agg (idC (sha (flat L)))) ∧ Below w.heap.size w w' := by
  obtain ⟨Z, hZ0, hZ⟩ : ∃ Z : Array Value, (Tryd.prog.info? 25).bind (fun i => i.zero.map Value.cells) = some Z ∧ Hid (Z = idC zeros) := ⟨_, zero_id, rfl⟩
  obtain ⟨ZR, hZR0, hZR⟩ : ∃ Z : Array Value, (Tryd.prog.info? 30).bind (fun i => i.zero.map Value.cells) = some Z ∧ Hid (Z = runC false S8.zero (.slice none 0 0) 0) := ⟨_, zero_run, rfl⟩
  obtain ⟨w1, hw1⟩ : ∃ w1, w1 = (w.alloc (.cells Z 25)).alloc (.cells ZR 30) := ⟨_, rfl⟩
  have hb1 : Below w.heap.size w w1 := by rw [hw1]; exact ((Below.refl _ w).alloc (Nat.le_refl _) _).alloc (by simp) _
  have q0 : w1.heap[w.heap.size]? = some (.cells Z 25 (0, 0)) := by rw [hw1]; exact heap_alloc2_old _ _ _
  have q1 : w1.heap[w.heap.size + 1]? = some (.cells ZR 30 (0, 0)) := by rw [hw1]; exact heap_alloc2_new _ _ _
  have hTg : ∀ W, Below w.heap.size w W → TabsOK W := fun W hb => hT.below hb
  have hRA : RunAt w.heap.size (w.heap.size + 1) false [] w1 := ⟨fun _ => rfl, none, 0, by rw [q1, hZR.out]; rfl, by decide, by decide, by unfold maxLen; omega, RdC.nil _ _, fun _ => rfl, fun ad e => by cases e⟩
  have HW1 := Lib.hid hw1
  have HL := Lib.hid hL
  clear hw1 q1 hL hT
  go_enter Tryd.func11, Tryd.ntmps11
  go_wp2_with (first
    | (with_reducible refine wpList_alloc_z rfl 25 rfl Z hZ0 ?_)
    | (with_reducible refine wpList_alloc_z rfl 30 rfl ZR hZR0 ?_; rw [← HW1.out])
    | fail)
  go_loopw [8] (fun i wr => ∃ (k : Nat) (b : Bool), k ≤ n ∧ i = .int .i64 (k : Int) ∧ RunAt w.heap.size (w.heap.size + 1) b (flat (L.take k)) wr ∧ wr.heap[w.heap.size]? = some (.cells Z 25 (0, 0)) ∧ Below w.heap.size w wr) (fun i _ => n - (intOf i).toNat)
  case atStart => exact ⟨0, false, by omega, rfl, hRA, q0, hb1⟩
  case round =>
    obtain ⟨k, b, hk, rfl, hR, g0, gb⟩ := hrel
    clear hRA q0 hb1
    by_cases hlt : k < n
    · have kL : k < L.length := by rw [HL.out]; exact hlt
      have hki : (k : Int) < (n : Int) := by omega
      obtain ⟨ad, hA, hc⟩ := hr k (L[k].val) (by rw [List.getElem?_map, List.getElem?_eq_getElem kL]; rfl)
      subst hA
      have hck := (gb.cell (World.block_lt_of_cell? w _ hc)).trans hc
      have hoks := hok _ (List.getElem_mem kL)
      have hsn := flat_snoc L k kL
      have hle := flat_take_le L (k + 1)
      rw [hsn] at hle
      rw [List.length_append] at hle
      have HSN := Lib.hid hsn
      generalize L[k] = s at *
      unfold SlB.val at hck
      obtain ⟨s1, s2, s3⟩ := hoks
      have hadd := add_any w.heap.size (w.heap.size + 1) b (flat (L.take k)) wr hR gb.size (hTg wr gb) s.A s.n s.c s.l s1 s2 (s3.below gb) (fun ad' e => by
        by_cases h0 : s.l = []
        · exact .inr h0
        · have := s3.lt (by rw [u8v_length]; exact List.length_pos_iff.2 h0) ad' e
          exact .inl (by omega)) (by rw [← s1]; omega)
      clear hsn hc hR hTg
      go_wp2_with (first
        | (go_at_call 9; refine hadd.mono ?_; rintro e w2 ⟨rfl, hR2, hg2⟩)
        | fail)
      rw [← HSN.out] at hR2
      have g02 := (hg2.block _ (lt_of_get g0) (by simp)).trans g0
      have gb2 : Below w.heap.size w w2 := ⟨hg2.os.trans gb.os, hg2.tape.trans gb.tape, hg2.output.trans gb.output, Nat.le_trans gb.size hg2.size, fun j hj => (hg2.block j (by have := gb.size; omega) (by simp; omega)).trans (gb.block j hj)⟩
      exact ⟨⟨k + 1, true, by omega, rfl, hR2, g02, gb2⟩, by simp [intOf]; omega⟩
    · obtain rfl : k = n := by omega
      rw [List.take_of_length_le (by rw [HL.out]; exact Nat.le_refl _)] at hR
      have hsum := sum_any w.heap.size (w.heap.size + 1) b (flat L) wr hR (hTg wr gb) (by omega)
      obtain ⟨D, hD, hDs, hD1⟩ : ∃ D : Array Value, Hid (D = idC (sha (flat L))) ∧ D.size = 32 ∧ (∀ u ∈ D.toList, u.oneCell' = true) := ⟨_, rfl, by rw [idC_size]; rfl, by simpa [idC] using u8v_one (sha (flat L))⟩
      rw [← hD.out] at hsum
      have hDi : (Tryd.prog.info? 25).map (·.size) = some D.size := by rw [hDs]; exact size_id
      have hDz : D.size = Z.size := by rw [hDs, hZ.out, idC_size]; rfl
      go_wp2_with (first
        | (go_at_call 10; refine hsum.mono ?_; rintro e w2 ⟨rfl, hb2⟩; have g02 := (hb2.block _ (lt_of_get g0)).trans g0; have gb2 := below_then gb hb2 (Nat.le_refl _))
        | (with_reducible refine wpList_store_z rfl 25 (.tmp 2) (.tmp 15) rfl _ rfl D rfl Z _ g02 hDz hDi hD1 ?_)
        | fail)
      have gr := setRow_heap w2 w.heap.size _ D _ _ g02
      exact bodyPost_ret (results_cell_row rfl _ _ w.heap.size 25 D (0, 0) _ rfl gr Tryd.underlying25 rfl hDi) rfl ⟨by rw [hD.out], below_setRow gb2 (Nat.le_refl _) D⟩
end Go.Proofs.YtcdnbidenaljlaaDoor

