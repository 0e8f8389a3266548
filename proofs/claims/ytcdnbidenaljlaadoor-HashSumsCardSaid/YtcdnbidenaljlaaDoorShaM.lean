/- SHA-256: a state behind a block. -/
import Derived.Test.YtcdnbidenaljlaaDoorShaI
import Derived.Test.YtcdnbidenaljlaaDoorRegIn
import Derived.Test.YtcdnbidenaljlaaDoorRegT
import Derived.Test.YtcdnbidenaljlaaDoorHashQ
import Derived.Test.YtcdnbidenaljlaaDoorQuietIn
namespace Go.Proofs.YtcdnbidenaljlaaDoor
open Go.RowKit Go.Shelf
attribute [local go_sem] Oper.semAt_some

theorem wpListIn_store_z {l n : Nat} {P : Program} {ops : Array Oper} {rest : List Oper} {o : Oper} {a : Act} {w : World} {Q : Exit → Act → World → Prop} (hgd : o.guard = none) (ty : TypeId) (x y : Operand) (ho : o.op = .store ty x y) (g : Nat) (hx : a.eval x = .pointer (some ⟨g, 0, none⟩)) (cs : Array Value) (hy : a.eval y = .agg cs)
    (cur : Array Value) (t : TypeId) (hg : w.heap[g]? = some (.cells cur t (0, 0))) (hs : cs.size = cur.size) (hi : (P.info? ty).map (·.size) = some cs.size) (h1 : ∀ u ∈ cs.toList, u.oneCell' = true)
    (h : wpListIn (Fence.wide.inRound l) n P ops Q rest (a.put o.dst undef) (w.setRow g cs)) : wpListIn (Fence.wide.inRound l) n P ops Q (o :: rest) a w :=
  wpListIn_plain hgd fun K hK => Reg.op_in (by rw [ho]; intro c e; cases e) (wp_store_z ty x y ho g hx cs hy cur t hg hs hi h1 (hK _ _ h))

def FacRow (w : World) : Prop := ∃ t fr, w.heap[1]? = some (.cells (u32C ks) t fr)
theorem FacRow.below {B : Nat} {w W : World} (h : FacRow w) (hB : 1 < B) (hb : Below B w W) : FacRow W := h.elim fun t h => h.elim fun fr h => ⟨t, fr, (hb.block _ hB).trans h⟩
theorem zero_8 : (Tryd.prog.info? 28).bind (fun i => i.zero.map Value.cells) = some (u32C (List.replicate 8 0)) := by kernel_rfl
theorem size_8 : (Tryd.prog.info? 28).map (·.size) = some 8 := by kernel_rfl
theorem size_64b : (Tryd.prog.info? 58).map (·.size) = some 64 := by kernel_rfl
theorem heap_alloc3_0 (w : World) (a b c : Obj) : (((w.alloc a).alloc b).alloc c).heap[w.heap.size]? = some a := (((Below.refl _ ((w.alloc a).alloc b)).alloc (Nat.le_refl _) c).block _ (by simp only [World.size_alloc]; omega)).trans (heap_alloc2_old w a b)
theorem heap_alloc3_1 (w : World) (a b c : Obj) : (((w.alloc a).alloc b).alloc c).heap[w.heap.size + 1]? = some b := (((Below.refl _ ((w.alloc a).alloc b)).alloc (Nat.le_refl _) c).block _ (by simp)).trans (heap_alloc2_new w a b)
theorem heap_alloc3_2 (w : World) (a b c : Obj) : (((w.alloc a).alloc b).alloc c).heap[w.heap.size + 2]? = some c := by
  have := heap_alloc_new ((w.alloc a).alloc b) c
  simpa only [World.size_alloc, Nat.add_assoc, Nat.reduceAdd] using this
theorem row_putObj {W : World} {b : Nat} {cs : Array Value} {t : TypeId} {fr : Nat × Nat} (h : W.heap[b]? = some (.cells cs t fr)) {k : Nat} {o : Obj} (ho : W.heap[k]? = some o) (hc : o.isCells = false) (o' : Obj) : (W.putObj k o').heap[b]? = some (.cells cs t fr) :=
  (World.putObj_heap_other (fun e => by subst e; rw [ho] at h; cases h; cases hc)).trans h
theorem below_putO {B k : Nat} {w W : World} (h : Below B w W) (hk : B ≤ k) (o' : Obj) : Below B w (W.putObj k o') :=
  ⟨h.os, h.tape, h.output, by rw [World.putObj_size]; exact h.size, fun i hi => (World.putObj_heap_other (by omega)).trans (h.block i hi)⟩
def MixI (B : Nat) (s : S8) (x : List UInt8) (w : World) (pre : List (Nat × Nat)) (W : World) : Prop :=
  W.heap[B]? = some (.cells (u32C s.l) 28 (0, 0)) ∧ W.heap[B + 2]? = some (.cells (u32C (List.replicate 8 0)) 28 (0, 0)) ∧ W.heap[B + 3]? = some (.cells (u32C (rds (sched x 64) s pre.length).l) 28 (0, 0)) ∧ Below B w W
theorem sig1_bits (e : Nat) (h : e < 4294967296) : bits .xor .u32 (bits .xor .u32 (rr e 6 : Nat) (rr e 11 : Nat)) (rr e 25 : Nat) = (sig1 e : Nat) := by
  rw [u32_xor_nat _ _ (rr_lt e 6 h) (rr_lt e 11 h)]
  exact u32_xor_nat _ _ (xor_lt (rr_lt e 6 h) (rr_lt e 11 h)) (rr_lt e 25 h)
theorem sig0_bits (e : Nat) (h : e < 4294967296) : bits .xor .u32 (bits .xor .u32 (rr e 2 : Nat) (rr e 13 : Nat)) (rr e 22 : Nat) = (sig0 e : Nat) := by
  rw [u32_xor_nat _ _ (rr_lt e 2 h) (rr_lt e 13 h)]
  exact u32_xor_nat _ _ (xor_lt (rr_lt e 2 h) (rr_lt e 13 h)) (rr_lt e 22 h)
theorem not_nat (e : Nat) (h : e < 4294967296) : 4294967295 ^^^ e = 4294967295 - e := by
  have h1 : (BitVec.allOnes 32 ^^^ BitVec.ofNat 32 e).toNat = 4294967295 ^^^ e := by
    rw [BitVec.toNat_xor, BitVec.toNat_allOnes, BitVec.toNat_ofNat, Nat.mod_eq_of_lt h]
  have h2 : BitVec.allOnes 32 ^^^ BitVec.ofNat 32 e = ~~~ (BitVec.ofNat 32 e) := by
    rw [BitVec.xor_comm, BitVec.xor_allOnes]
  rw [h2, BitVec.toNat_not, BitVec.toNat_ofNat, Nat.mod_eq_of_lt h] at h1
  rw [← h1]
theorem not_bits (e : Nat) (h : e < 4294967296) : bits .xor .u32 IntKind.u32.max (e : Int) = (4294967295 - e : Nat) := by
  have := u32_xor_nat 4294967295 e (by omega) h
  rw [not_nat e h] at this
  exact this
theorem ch_bits (e f g : Nat) (he : e < 4294967296) (hf : f < 4294967296) (hg : g < 4294967296) : bits .xor .u32 (bits .and .u32 (e : Int) (f : Int)) (bits .and .u32 ((4294967295 - e : Nat) : Int) (g : Int)) = (chW e f g : Nat) := by
  rw [u32_and_nat _ _ he hf, u32_and_nat _ _ (by omega) hg]
  exact u32_xor_nat _ _ (and_lt he) (and_lt (by omega))
theorem maj_bits (a b c : Nat) (ha : a < 4294967296) (hb : b < 4294967296) (hc : c < 4294967296) : bits .xor .u32 (bits .xor .u32 (bits .and .u32 (a : Int) (b : Int)) (bits .and .u32 (a : Int) (c : Int))) (bits .and .u32 (b : Int) (c : Int)) = (majW a b c : Nat) := by
  rw [u32_and_nat _ _ ha hb, u32_and_nat _ _ ha hc, u32_and_nat _ _ hb hc, u32_xor_nat _ _ (and_lt ha) (and_lt ha)]
  exact u32_xor_nat _ _ (xor_lt (and_lt ha) (and_lt ha)) (and_lt hb)
theorem wrap_add32 (a b : Nat) : IntKind.u32.wrap ((a : Int) + (b : Int)) = (add32 a b : Nat) := by
  rw [IntKind.wrap_u32']
  unfold add32
  omega
def mixA (S X : Array Value) (B b : Nat) (z : Nat × Nat) : Act := { tmps := #[.agg S, .agg X, .pointer (some ⟨B, 0, none⟩), .pointer (some ⟨B + 1, 0, none⟩), .pointer (some ⟨B + 2, 0, none⟩), .pointer (some ⟨B + 3, 0, none⟩), .int .i64 (z.1 : Int), .int .u32 (z.2 : Int), undef, undef, undef, undef, undef, undef, undef, .agg S, .agg X, .func (.func 55) #[] #[.pointer (some ⟨b, 0, none⟩)], .int .i64 (z.1 : Int), .int .u32 (z.2 : Int), undef, undef, undef, undef, undef, undef, undef, undef, undef, undef, undef, undef, undef, undef, undef, undef, undef, undef, undef, undef, undef, undef, undef, undef, undef, undef, undef, undef, undef, undef, undef, undef, undef, undef, undef, undef, undef, undef, undef, undef, undef, undef, undef, undef, undef, undef, undef, undef, undef, undef, undef, undef, undef, undef, undef, undef, undef, undef, undef, undef, undef, undef, undef, undef, undef, undef, undef, undef, undef, undef, undef, undef, undef, undef, undef, undef, undef, undef, undef, undef, undef, undef, undef, undef, undef, undef, undef, undef, undef], defers := [] }
def mixL (s t : S8) (k : Nat) : List Nat := (List.range 8).map fun j => if j < k then add32 (t.l.getD j 0) (s.l.getD j 0) else t.l.getD j 0
theorem mixL_length (s t : S8) (k : Nat) : (mixL s t k).length = 8 := by simp [mixL]
theorem mixL_zero (s t : S8) : mixL s t 0 = t.l := rfl
theorem mixL_full (s t : S8) : mixL s t 8 = (add8 s t).l := rfl
theorem mixL_get (s t : S8) (k : Nat) (h : k < 8) : (mixL s t k).getD k 0 = t.l.getD k 0 := by
  simp [mixL, List.getD_eq_getElem?_getD, List.getElem?_range h]
theorem mixL_set (s t : S8) (k : Nat) (h : k < 8) : (mixL s t k).set k (add32 (t.l.getD k 0) (s.l.getD k 0)) = mixL s t (k + 1) := by
  refine List.ext_getElem (by simp [mixL]) fun j h1 h2 => ?_
  rw [List.getElem_set]
  simp only [mixL, List.getElem_map, List.getElem_range]
  by_cases e : k = j
  · subst e; simp
  · by_cases e2 : j < k
    · rw [if_neg e, if_pos e2, if_pos (by omega)]
    · rw [if_neg e, if_neg e2, if_neg (by omega)]
def rfB : Code → Option Code
  | .rangeFunc _ _ _ b => some b
  | .seq a b => (rfB a).or (rfB b)
  | .block _ c => rfB c
  | .scope c => rfB c
  | .loop c => rfB c
  | _ => none
set_option maxRecDepth 100000 in
set_option maxHeartbeats 1000000 in
theorem mixed_body (s : S8) (hs : s.ok) (x : List UInt8) (w : World) (hF : FacRow w) (hw1 : 1 < w.heap.size) (S X : Array Value) (L : Nat) (pre : List (Nat × Nat)) (z : Nat × Nat) (rest : List (Nat × Nat)) (W : World) (hl : schP x = pre ++ z :: rest) (hI : MixI w.heap.size s x w pre W) (hst : SprSt (w.heap.size + 4) (w.heap.size + 7) x (pre.length + 1) W) :
    ((Tryd.f27.body.bind rfB).getD .skip).wpIn (Fence.wide.inRound L) (5 - 1 - 1) Tryd.prog (leftOr (MixI w.heap.size s x w) (fun _ _ _ => False) (SprSt (w.heap.size + 4) (w.heap.size + 7) x) (pre ++ [z]) W) (mixA S X w.heap.size (w.heap.size + 4) z) W := by
  simp only [Tryd.f27, rfB, Option.bind_some, Option.getD_some, Option.orElse_some, Option.orElse_none, Option.or_some, Option.none_or]
  obtain ⟨hi, rfl⟩ := schP_at hl
  obtain ⟨h0, h2, h3, hb⟩ := hI
  unfold mixA
  have hok : (rds (sched x 64) s pre.length).ok := rds_ok _ _ _ hs
  have hnext : rds (sched x 64) s (pre.length + 1) = rnd (rds (sched x 64) s pre.length) (ks.getD pre.length 0) (wrd x (sched x pre.length) pre.length) := by
    show rnd _ _ _ = _
    rw [sched_get _ _ _ hi]
  generalize hk : pre.length = k at *
  generalize rds (sched x 64) s k = t at *
  obtain ⟨ta, tb, tc, td, te, tf, tg, th⟩ := t
  have f0 : W.cell? ⟨w.heap.size + 3, 0, none⟩ = some (.int .u32 (ta : Int)) := by rw [cell_of_row _ _ _ _ _ _ h3]; rfl
  have f1 : W.cell? ⟨w.heap.size + 3, 1, none⟩ = some (.int .u32 (tb : Int)) := by rw [cell_of_row _ _ _ _ _ _ h3]; rfl
  have f2 : W.cell? ⟨w.heap.size + 3, 2, none⟩ = some (.int .u32 (tc : Int)) := by rw [cell_of_row _ _ _ _ _ _ h3]; rfl
  have f3 : W.cell? ⟨w.heap.size + 3, 3, none⟩ = some (.int .u32 (td : Int)) := by rw [cell_of_row _ _ _ _ _ _ h3]; rfl
  have f4 : W.cell? ⟨w.heap.size + 3, 4, none⟩ = some (.int .u32 (te : Int)) := by rw [cell_of_row _ _ _ _ _ _ h3]; rfl
  have f5 : W.cell? ⟨w.heap.size + 3, 5, none⟩ = some (.int .u32 (tf : Int)) := by rw [cell_of_row _ _ _ _ _ _ h3]; rfl
  have f6 : W.cell? ⟨w.heap.size + 3, 6, none⟩ = some (.int .u32 (tg : Int)) := by rw [cell_of_row _ _ _ _ _ _ h3]; rfl
  have f7 : W.cell? ⟨w.heap.size + 3, 7, none⟩ = some (.int .u32 (th : Int)) := by rw [cell_of_row _ _ _ _ _ _ h3]; rfl
  obtain ⟨_, fr, hfac⟩ := hF.below hw1 hb
  have fk : W.cell? ⟨1, k, none⟩ = some (.int .u32 (ks.getD k 0 : Nat)) := by rw [cell_of_row _ _ _ _ _ _ hfac]; exact u32C_get _ _ hi
  generalize wrd x (sched x k) k = wv at *
  generalize ks.getD k 0 = kc at *
  obtain ⟨ka, kb, kc', kd, ke, kf, kg, kh⟩ := hok
  have hS1 := sig1_bits te ke
  have hS0 := sig0_bits ta ka
  have hM := maj_bits ta tb tc ka kb kc'
  obtain ⟨ne, hne⟩ : ∃ ne, ne = 4294967295 - te := ⟨_, rfl⟩
  have hNo := not_bits te ke
  have hC := ch_bits te tf tg ke kf kg
  rw [← hne] at hNo hC
  obtain ⟨o1, ho1⟩ : ∃ o, o = add32 (add32 (add32 (add32 th (sig1 te)) (chW te tf tg)) kc) wv := ⟨_, rfl⟩
  have hO1 := wrap_add32 th (sig1 te)
  have hO2 := wrap_add32 (add32 th (sig1 te)) (chW te tf tg)
  have hO3 := wrap_add32 (add32 (add32 th (sig1 te)) (chW te tf tg)) kc
  have hO4 := wrap_add32 (add32 (add32 (add32 th (sig1 te)) (chW te tf tg)) kc) wv
  rw [← ho1] at hO4
  have HO := Lib.hid ho1
  have HE := Lib.hid hne
  clear ho1 hne
  have HK := Lib.hid hk
  have HN := Lib.hid hnext
  have KA := Lib.hid ka
  have KB := Lib.hid kb
  have KC := Lib.hid kc'
  have KE := Lib.hid ke
  have KF := Lib.hid kf
  have KG := Lib.hid kg
  clear hk hnext ka kb kc' kd ke kf kg kh hl hfac
  have hii : (k : Int) < 64 := by omega
  gi_wp2_with fail
  refine region_quiet_in (by kernel_rfl) (fun ⟨_, _, h⟩ => h) (by kernel_rfl) (by kernel_rfl) ?_
  repeat (quiet_step (fail))
  refine wpQuiet_nil ?_
  rintro _ ⟨n1, rfl⟩
  gi_wp2_with fail
  refine ⟨trivial, ?_⟩
  ((with_reducible refine ((callsIn_wide.2 (rotl_any te 6 (-6) rfl KE.out (by omega) (by omega) _)).inRound L).mono ?_))
  rintro e w' ⟨rfl, rfl⟩
  gi_wp2_with fail
  refine ⟨trivial, ?_⟩
  ((with_reducible refine ((callsIn_wide.2 (rotl_any te 11 (-11) rfl KE.out (by omega) (by omega) _)).inRound L).mono ?_))
  rintro e w' ⟨rfl, rfl⟩
  gi_wp2_with fail
  refine ⟨trivial, ?_⟩
  ((with_reducible refine ((callsIn_wide.2 (rotl_any te 25 (-25) rfl KE.out (by omega) (by omega) _)).inRound L).mono ?_))
  rintro e w' ⟨rfl, rfl⟩
  gi_wp2_with fail
  refine region_quiet_in (by kernel_rfl) (fun ⟨_, _, h⟩ => h) (by kernel_rfl) (by kernel_rfl) ?_
  repeat (quiet_step (fail))
  refine wpQuiet_nil ?_
  rintro _ ⟨n2, rfl⟩
  gi_wp2_with fail
  refine ⟨trivial, ?_⟩
  ((with_reducible refine ((callsIn_wide.2 (rotl_any ta 2 (-2) rfl KA.out (by omega) (by omega) _)).inRound L).mono ?_))
  rintro e w' ⟨rfl, rfl⟩
  gi_wp2_with fail
  refine ⟨trivial, ?_⟩
  ((with_reducible refine ((callsIn_wide.2 (rotl_any ta 13 (-13) rfl KA.out (by omega) (by omega) _)).inRound L).mono ?_))
  rintro e w' ⟨rfl, rfl⟩
  gi_wp2_with fail
  refine ⟨trivial, ?_⟩
  ((with_reducible refine ((callsIn_wide.2 (rotl_any ta 22 (-22) rfl KA.out (by omega) (by omega) _)).inRound L).mono ?_))
  rintro e w' ⟨rfl, rfl⟩
  gi_wp2_with (first
    | (with_reducible refine wpListIn_store_z rfl 28 (.tmp 5) (.tmp 95) rfl (w.heap.size + 3) rfl _ rfl (u32C (S8.l ⟨ta, tb, tc, td, te, tf, tg, th⟩)) 28 ?c1 ?c2 ?c3 ?c4 ?_)
    | fail)
  case c1 => exact h3
  case c2 => as_aux_lemma => simp only [List.size_toArray, List.length_cons, List.length_nil, u32C_size, S8.l]
  case c3 => as_aux_lemma => simp only [List.size_toArray, List.length_cons, List.length_nil]; exact size_8
  case c4 => as_aux_lemma => simp [Value.oneCell']
  obtain ⟨C, hC2⟩ : ∃ C, C = #[Value.int .u32 (((o1 : Int) + ((sig0 ta : Nat) + (majW ta tb tc : Nat))) % 4294967296), .int .u32 (ta : Int), .int .u32 (tb : Int), .int .u32 (tc : Int), .int .u32 (((td : Int) + (o1 : Int)) % 4294967296), .int .u32 (te : Int), .int .u32 (tf : Int), .int .u32 (tg : Int)] := ⟨_, rfl⟩
  rw [← hC2]
  have hCe : C = u32C (rnd ⟨ta, tb, tc, td, te, tf, tg, th⟩ kc wv).l := by
    rw [hC2]
    unfold rnd oneW twoW
    simp only [S8.l]
    rw [← HO.out]
    unfold add32 u32C
    simp only [List.map_cons, List.map_nil]
    congr 2
    · congr 1; omega
  clear hC2
  have hsz : ((W.drewN (n1 + n2)).setRow (w.heap.size + 3) C).heap.size = W.heap.size := by simp [World.setRow]
  have hoth : ∀ j, j ≠ w.heap.size + 3 → ((W.drewN (n1 + n2)).setRow (w.heap.size + 3) C).heap[j]? = W.heap[j]? := fun j hj => setRow_other _ _ _ _ hj
  obtain ⟨st1, st2, st3⟩ := hst
  refine ⟨⟨by rw [hsz]; exact Nat.le_refl _, fun j o ho hc => (hoth j (fun e => by subst e; rw [h3] at ho; cases ho; cases hc)).trans ho⟩, ?_, ?_⟩
  · rw [List.length_append, HK.out]
    exact ⟨(hoth _ (by omega)).trans st1, (hoth _ (by omega)).trans st2, st3⟩
  · refine ⟨(hoth _ (by omega)).trans h0, (hoth _ (by omega)).trans h2, ?_, below_setRow (show Below w.heap.size w (W.drewN (n1 + n2)) from ⟨hb.os, hb.tape, hb.output, hb.size, hb.block⟩) (by omega) C⟩
    rw [List.length_append, HK.out]
    have h4 := setRow_heap (W.drewN (n1 + n2)) (w.heap.size + 3) _ C _ _ h3
    rw [h4, hCe]
    have := HN.out
    rw [show k + [(k, wv)].length = k + 1 from rfl, this]
set_option maxRecDepth 100000 in
set_option maxHeartbeats 1000000 in
theorem mixed_any (s : S8) (hs : s.ok) (x : List UInt8) (hx : x.length = 64) (w : World) (hF : FacRow w) (hw1 : 1 < w.heap.size) :
    Calls Tryd.prog 27 #[.agg (u32C s.l), .agg (blkC x)] w fun e w' => e = .returned (.agg (u32C (mixedS s x).l)) ∧ Below w.heap.size w w' := by
  obtain ⟨Z, hZ0, hZ, hZs⟩ : ∃ Z : Array Value, (Tryd.prog.info? 28).bind (fun i => i.zero.map Value.cells) = some Z ∧ Hid (Z = u32C (List.replicate 8 0)) ∧ Z.size = 8 := ⟨_, zero_8, rfl, rfl⟩
  obtain ⟨S, hS, hSs, hS1⟩ : ∃ S : Array Value, Hid (S = u32C s.l) ∧ S.size = 8 ∧ (∀ u ∈ S.toList, u.oneCell' = true) := ⟨_, rfl, rfl, u32C_one _⟩
  obtain ⟨X, hX, hXs⟩ : ∃ X : Array Value, Hid (X = blkC x) ∧ X.size = 64 := ⟨_, rfl, by simp [blkC, u8v, hx]⟩
  rw [← hS.out, ← hX.out]
  have hSi : (Tryd.prog.info? 28).map (·.size) = some S.size := by rw [hSs]; exact size_8
  have hXi : (Tryd.prog.info? 58).map (·.size) = some X.size := by rw [hXs]; exact size_64b
  have q0 : (((w.alloc (.cells S 28)).alloc (.cells X 58)).alloc (.cells Z 28)).heap[w.heap.size]? = some (.cells S 28 (0, 0)) := heap_alloc3_0 _ _ _ _
  have q1 : (((w.alloc (.cells S 28)).alloc (.cells X 58)).alloc (.cells Z 28)).heap[w.heap.size + 1]? = some (.cells X 58 (0, 0)) := heap_alloc3_1 _ _ _ _
  have q2 : (((w.alloc (.cells S 28)).alloc (.cells X 58)).alloc (.cells Z 28)).heap[w.heap.size + 2]? = some (.cells Z 28 (0, 0)) := heap_alloc3_2 _ _ _ _
  have qb : Below w.heap.size w (((w.alloc (.cells S 28)).alloc (.cells X 58)).alloc (.cells Z 28)) := (((Below.refl _ w).alloc (Nat.le_refl _) _).alloc (by simp) _).alloc (by simp; omega) _
  have qz : (((w.alloc (.cells S 28)).alloc (.cells X 58)).alloc (.cells Z 28)).heap.size = w.heap.size + 3 := by simp
  refine (callsIn_wide (n := 5)).1 ?_
  refine callsIn_of_wp_marks Tryd.func27 rfl trivial ?_ rfl
  simp only [Tryd.ntmps27, List.size_toArray, List.length_cons, List.length_nil, Nat.reduceAdd, Nat.reduceSub, Array.replicate_succ, Array.replicate_zero, List.push_toArray, List.append_toArray, List.nil_append, List.cons_append]
  refine wpIn_wide.2 ?_
  go_upto_region 1 with (first
    | (with_reducible refine wpList_alloc_z rfl 28 rfl Z hZ0 ?_)
    | fail)
  simp only [World.size_alloc, Nat.add_assoc, Nat.reduceAdd]
  obtain ⟨w1, hw1e⟩ : ∃ w1, w1 = (((w.alloc (.cells S 28)).alloc (.cells X 58)).alloc (.cells Z 28)) := ⟨_, rfl⟩
  rw [← hw1e] at q0 q1 q2 qb qz ⊢
  clear hw1e
  obtain ⟨w2, hw2⟩ : ∃ w2, w2 = (w1.alloc (.cells Z 28)).setRow w1.heap.size S := ⟨_, rfl⟩
  have qn : (w1.alloc (.cells Z 28)).heap[w1.heap.size]? = some (.cells Z 28 (0, 0)) := heap_alloc_new _ _
  have qb2 : Below w1.heap.size w1 w2 := by rw [hw2]; exact below_setRow ((Below.refl _ w1).alloc (Nat.le_refl _) _) (Nat.le_refl _) S
  have q3 : w2.heap[w.heap.size + 3]? = some (.cells S 28 (0, 0)) := by rw [hw2, ← qz]; exact setRow_heap _ _ Z S _ _ qn
  have z2 : w2.heap.size = w.heap.size + 4 := by rw [hw2]; simp [World.setRow, qz]
  go_upto_region 2 with (first
    | (with_reducible refine wpList_alloc_z rfl 28 rfl Z hZ0 ?_)
    | (with_reducible refine wpList_load_row rfl 28 (.tmp 2) rfl _ rfl 28 S _ _ q0 Tryd.underlying28 rfl hSi ?_)
    | (with_reducible refine wpList_store_z rfl 28 (.tmp 5) (.tmp 15) rfl _ rfl S rfl Z _ qn (by rw [hSs, hZs]) hSi hS1 ?_)
    | fail)
  rw [← hw2, qz]
  have q0' := (qb2.block _ (by omega)).trans q0
  have q1' := (qb2.block _ (by omega)).trans q1
  have q2' := (qb2.block _ (by omega)).trans q2
  have qb' := below_then qb qb2 (by omega)
  clear hw2 q0 q1 q2 qb qb2 qn qz w1
  obtain ⟨w3, hw3⟩ : ∃ w3, w3 = w2.alloc (.cells X 58) := ⟨_, rfl⟩
  have hsp := spread_any x w2
  rw [← hX.out, ← hw3] at hsp
  have hb3 : Below w2.heap.size w2 w3 := by rw [hw3]; exact (Below.refl _ _).alloc (Nat.le_refl _) _
  have qx : w3.heap[w2.heap.size]? = some (.cells X 58 (0, 0)) := by rw [hw3]; exact heap_alloc_new _ _
  have z3 : w3.heap.size = w.heap.size + 5 := by rw [hw3, World.size_alloc, z2]
  have Z3 := Lib.hid z3
  clear hw3 z3
  go_wp2_with (first
    | (with_reducible refine wpList_load_row rfl 58 (.tmp 3) rfl _ rfl 58 X _ _ q1' Tryd.underlying58 rfl hXi ?_)
    | (go_at_call 42; refine hsp.mono ?_; rintro e w' ⟨rfl, hw'⟩; rw [hw']; clear hw')
    | fail)
  have z3 := Z3.out
  have r0 := (hb3.block _ (by omega)).trans q0'
  have r2 := (hb3.block _ (by omega)).trans q2'
  have r3 := (hb3.block _ (by omega)).trans q3
  have rb := below_then qb' hb3 (by omega)
  rw [z2] at qx
  clear hsp q0' q1' q2' q3 qb' hb3 z2
  rw [hX.out] at qx
  rw [hS.out] at r0 r3
  rw [hZ.out] at r2
  refine (wpIn_wide (n := 5)).1 ?_
  refine range_some (F := Fence.wide) (n := 5) rfl (by omega) (gf := 55) (lb := #[.pointer (some ⟨w.heap.size + 4, 0, none⟩)]) rfl trivial (enters_of Tryd.func55 (by kernel_rfl) rfl) encW (fun _ => rfl) (schP x) (SprSt (w.heap.size + 4) (w.heap.size + 7) x) (SprCh (w.heap.size + 7))
    (fun r o => ?hseq) ?hch (MixI w.heap.size s x w) (fun _ _ _ => False) ?h0 ?hIc ?hIp ?hSp ?hIxp (mixA S X w.heap.size (w.heap.size + 4)) ?assign ?body ?done ?stop
  case hseq =>
    have hb := ((Below.refl _ w3).alloc (Nat.le_refl _) o).alloc (show w3.heap.size ≤ (w3.alloc o).heap.size by simp) r
    have := spread_hands 4 (by omega) (w.heap.size + 4) x hx ((w3.alloc o).alloc r) ((hb.block _ (by omega)).trans qx)
    rw [World.size_alloc, World.size_alloc, z3] at this
    exact this
  case hch =>
    intro a b h k o hk ho
    by_cases e : k = w.heap.size + 7
    · subst e; exact h.2 o hk ho
    · exact (h.1.block k (Array.getElem?_eq_some_iff.1 hk).1 (fun e' => e (Option.some.inj e'))).trans hk
  case h0 =>
    intro o r
    have hb := ((Below.refl _ w3).alloc (Nat.le_refl _) o).alloc (show w3.heap.size ≤ (w3.alloc o).heap.size by simp) r
    exact ⟨(hb.block _ (by omega)).trans r0, (hb.block _ (by omega)).trans r2, (hb.block _ (by omega)).trans r3, below_then rb hb (by omega)⟩
  case hIc =>
    rintro q U V ⟨h1, h2, h3, h4⟩ hch
    have hz := h4.size
    exact ⟨(hch.1.block _ (lt_of_get h1) (by simp)).trans h1, (hch.1.block _ (lt_of_get h2) (by simp)).trans h2, (hch.1.block _ (lt_of_get h3) (by simp)).trans h3, hch.1.os.trans h4.os, hch.1.tape.trans h4.tape, hch.1.output.trans h4.output, Nat.le_trans hz hch.1.size, fun j hj => (hch.1.block j (by omega) (by simp; omega)).trans (h4.block j hj)⟩
  case hIp =>
    rintro q U k o o' ⟨h1, h2, h3, h4⟩ hk ho hc
    exact ⟨row_putObj h1 ho hc o', row_putObj h2 ho hc o', row_putObj h3 ho hc o', below_putO h4 (by omega) o'⟩
  case hSp =>
    rintro q U k o o' ⟨h1, h2, h3⟩ hk ho hc
    exact ⟨row_putObj h1 ho hc o', row_putObj h2 ho hc o', h3⟩
  case hIxp =>
    rintro cd q U k o o' h
    exact h.elim
  case stop =>
    rintro D cd pre W rfl hpre h hD
    exact h.elim
  case assign =>
    intro L z W K hK
    unfold encW
    unfold mixA at hK
    gi_wp2
    exact hK
  case body =>
    intro L pre z rest W hl hI hst hlt
    have := mixed_body s hs x w hF hw1 S X L pre z rest W hl hI hst
    simp only [Tryd.f27, rfB, Option.bind_some, Option.getD_some, Option.orElse_some, Option.orElse_none, Option.or_some, Option.none_or] at this
    exact this
  case done =>
    rintro D W rfl ⟨h0, h2, h3, hb⟩ hst hD
    have hl64 : (schP x).length = 64 := by simp [schP]
    rw [hl64] at h3
    have hm : mixedS s x = add8 s (rds (sched x 64) s 64) := rfl
    generalize rds (sched x 64) s 64 = t at *
    have HM := Lib.hid hm
    have h3' : W.heap[w.heap.size + 3]? = some (.cells (u32C (mixL s t 0)) 28 (0, 0)) := by rw [mixL_zero]; exact h3
    clear h3 hst hl64 hm qx
    have hDB : w.heap.size + 3 < w3.heap.size := by omega
    go_wp2_with fail
    go_loopw [96] (fun i wr => ∃ k : Nat, k ≤ 8 ∧ i = .int .i64 (k : Int) ∧ wr.heap[w.heap.size]? = some (.cells (u32C s.l) 28 (0, 0)) ∧ wr.heap[w.heap.size + 2]? = some (.cells (u32C (List.replicate 8 0)) 28 (0, 0)) ∧ wr.heap[w.heap.size + 3]? = some (.cells (u32C (mixL s t k)) 28 (0, 0)) ∧ wr.heap[w3.heap.size]? = some (.deferred (some [])) ∧ Below w.heap.size w wr) (fun i _ => 8 - (intOf i).toNat)
    case atStart => exact ⟨0, by omega, rfl, h0, h2, h3', hD, hb⟩
    case round =>
      obtain ⟨k, hk, rfl, g0, g2, g3, gD, gb⟩ := hrel
      clear h0 h2 h3' hD hb r0 r2 r3 rb
      by_cases hlt : k < 8
      · have hii : (k : Int) < 8 := by omega
        have fs : wr.cell? ⟨w.heap.size, k, none⟩ = some (.int .u32 (s.l.getD k 0 : Nat)) := by rw [cell_of_row _ _ _ _ _ _ g0]; exact u32C_get _ _ hlt
        have ft : wr.cell? ⟨w.heap.size + 3, k, none⟩ = some (.int .u32 (t.l.getD k 0 : Nat)) := by
          rw [cell_of_row _ _ _ _ _ _ g3, u32C_get _ _ (by rw [mixL_length]; exact hlt), mixL_get s t k hlt]
        have ff : wr.frozen? ⟨w.heap.size + 3, k, none⟩ = false := frozen_of_row wr _ k _ _ g3
        have hset := mixL_set s t k hlt
        have HS := Lib.hid hset
        have hnew := heap_setCell_same wr (w.heap.size + 3) k (u32C (mixL s t k)) _ (.int .u32 (add32 (t.l.getD k 0) (s.l.getD k 0) : Nat)) g3
        rw [← u32C_set, hset] at hnew
        clear hset
        generalize t.l.getD k 0 = tk at *
        generalize s.l.getD k 0 = sk at *
        have hw := wrap_add32 tk sk
        generalize add32 tk sk = v at *
        go_wp2_with fail
        go_region
        obtain ⟨wn, hwn⟩ : ∃ wn, wn = (wr.setCell ⟨w.heap.size + 3, k, none⟩ (.int .u32 (v : Int))).drew := ⟨_, rfl⟩
        have hno : ∀ j, j ≠ w.heap.size + 3 → wn.heap[j]? = wr.heap[j]? := fun j hj => by rw [hwn]; exact heap_setCell_other _ _ _ _ hj
        have g3n : wn.heap[w.heap.size + 3]? = some (.cells (u32C (mixL s t (k + 1))) 28 (0, 0)) := by rw [hwn]; exact hnew
        have gbn : Below w.heap.size w wn := by rw [hwn]; exact (gb.setCell (p := ⟨w.heap.size + 3, k, none⟩) (show w.heap.size ≤ w.heap.size + 3 by omega) _).drew
        rw [← hwn]
        have g0n := (hno _ (by omega)).trans g0
        have g2n := (hno _ (by omega)).trans g2
        have gDn := (hno _ (by omega)).trans gD
        clear hwn hno hnew g0 g2 g3 gD gb fs ft ff hw
        go_wp2_with fail
        exact ⟨⟨k + 1, by omega, rfl, g0n, g2n, g3n, gDn, gbn⟩, by simp [intOf]; omega⟩
      · obtain rfl : k = 8 := by omega
        rw [mixL_full, ← HM.out] at g3
        obtain ⟨V, hV, hVs, hV1⟩ : ∃ V : Array Value, Hid (V = u32C (mixedS s x).l) ∧ V.size = 8 ∧ (∀ u ∈ V.toList, u.oneCell' = true) := ⟨_, rfl, rfl, u32C_one _⟩
        rw [← hV.out] at g3
        have hVi : (Tryd.prog.info? 28).map (·.size) = some V.size := by rw [hVs]; exact size_8
        have hVz : V.size = (u32C (List.replicate 8 0)).size := by rw [hVs]; rfl
        have gr := setRow_heap wr (w.heap.size + 2) _ V _ _ g2
        have gD2 : (wr.setRow (w.heap.size + 2) V).heap[w3.heap.size]? = some (.deferred (some [])) := by rw [setRow_other _ _ _ _ (by omega)]; exact gD
        have gb2 := below_setRow gb (show w.heap.size ≤ w.heap.size + 2 by omega) V
        go_wp2_with (first
          | (with_reducible refine wpList_load_row rfl 28 (.tmp 5) rfl _ rfl 28 V _ _ g3 Tryd.underlying28 rfl hVi ?_)
          | (with_reducible refine wpList_store_z rfl 28 (.tmp 4) (.tmp 108) rfl _ rfl V rfl _ _ g2 hVz hVi hV1 ?_)
          | fail)
        refine ⟨by simp, .inl ⟨_, _, rfl, run_takeDeferred gD2, ?_⟩⟩
        have gr2 := row_putObj gr gD2 rfl (.deferred none)
        exact ⟨_, results_cell_row rfl _ _ (w.heap.size + 2) 28 V (0, 0) _ rfl gr2 Tryd.underlying28 rfl hVi, by rw [hV.out], below_putO gb2 (by omega) _⟩
end Go.Proofs.YtcdnbidenaljlaaDoor
