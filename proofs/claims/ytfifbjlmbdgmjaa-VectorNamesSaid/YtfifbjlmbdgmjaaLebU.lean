/- leb: appends whose origin is told; Size; what the reference writes; copies. -/
import Derived.Test.YtfifbjlmbdgmjaaLebM
import Derived.Lib.ItoaNum
namespace Go.Proofs.Ytfifbjlmbdgmjaa
open Go.RowKit
attribute [local go_sem] Oper.semAt_some

theorem own_of_block {w w' : World} {B : Nat} {e : TypeId} {s n : Nat} {v : Value} {xs : List Value} (h : w.ownsRow B e s v n xs) (hk : ∀ k, v.ownBlock = some k → w'.heap[k]? = w.heap[k]?) : w'.ownsRow B e s v n xs := by
  refine ⟨h.1, ?_⟩
  rcases h.2 with hn | ⟨g, cap, cur, rfl, hb, hgg, rest⟩
  · exact .inl hn
  · exact .inr ⟨g, cap, cur, rfl, hb, by rw [hk g rfl]; exact hgg, rest⟩
theorem own_mono {w : World} {B B' : Nat} {e : TypeId} {s n : Nat} {v : Value} {xs : List Value} (h : w.ownsRow B e s v n xs) (hB : B' ≤ B) : w.ownsRow B' e s v n xs := by
  refine ⟨h.1, ?_⟩
  rcases h.2 with hn | ⟨g, cap, cur, rfl, hb, rest⟩
  · exact .inl hn
  · exact .inr ⟨g, cap, cur, rfl, Nat.le_trans hB hb, rest⟩
section
variable {P : Program} {t e : TypeId} {size bytes : Nat} {z : Value}
theorem run_app2 (E : Elt P t e size bytes z) (ty : TypeId) (w : World) (base : Nat) (v : Value) (n : Nat) (xs : List Value) (hown : w.ownsRow base e size v n xs) (A : Option Addr) (m c : Nat) (news : List Value)
    (hl : news.length = m * size) (hr : RdC w A news) (h1 : ∀ u ∈ news, u.oneCell' = true) (h63 : n + m ≤ maxLen) (hbytes : (n + m) * bytes ≤ 140737488355328) (hbase : base ≤ w.heap.size) :
    ∃ v' w', (Builtin.append_ #[t, t] ty #[v, .slice A m c]).run P w = .ok v' w' ∧ w'.ownsRow base e size v' (n + m) (xs ++ news) ∧ w.grownBy w' v.ownBlock ∧ ∀ k, v'.ownBlock = some k → v.ownBlock = some k ∨ k = w.heap.size := by
  obtain ⟨i0, hi, hz0, hz1, hz2⟩ := info_parts E.hi
  rcases Nat.eq_zero_or_pos m with rfl | hm
  · have hn : news = [] := List.length_eq_zero_iff.1 (by rw [hl, Nat.zero_mul])
    subst hn
    refine ⟨v, w, ?_, by simpa using hown, World.grownBy.refl _ _, fun k hk => .inl hk⟩
    rcases hown.2 with ⟨rfl, rfl⟩ | ⟨g, cap, cur, rfl, _, _, hnc, _⟩
    · cases A <;> simp [Builtin.append_, run_underlying E.ht, sizeOf, typeInfo, hi, Builtin.lenOf, Builtin.firstCells, storeCells, loadCells, loadCellsFrom]
    · cases A <;> simp [Builtin.append_, run_underlying E.ht, sizeOf, typeInfo, hi, Builtin.lenOf, Builtin.firstCells, hnc, storeCells, loadCells, loadCellsFrom]
  · obtain ⟨v', w', h2, h3, h4⟩ := run_app E ty w base v n xs hown A m c news hl hr h1 h63 hbytes hbase
    cases A with
    | some a =>
      refine ⟨v', w', h2, h3, h4, fun k hk => ?_⟩
      rcases app_origin E ty w base v n xs hown a m c news hl hr h1 h63 hbytes hm v' w' h2 with h | h
      · exact .inl (by rw [← h]; exact hk)
      · rw [h] at hk; exact .inr (Option.some.inj hk).symm
    | none =>
      exfalso
      have hp : 0 < news.length := by rw [hl]; exact Nat.mul_pos hm E.hsz
      obtain ⟨_, e, _⟩ := hr 0 news[0] (List.getElem?_eq_getElem hp)
      cases e
theorem wpList_app2 (E : Elt P t e size bytes z) {w : World} {ops : Array Oper} {rest : List Oper} {o : Oper} {a : Act} {Q : Exit → Act → World → Prop} (hgd : o.guard = none) (s x : Operand)
    (ho : o.op = .call { callee := .builtin .append, args := #[s, x], argTypes := #[t, t] })
    (base : Nat) (v : Value) (n : Nat) (xs : List Value) (hs : a.eval s = v) (hown : w.ownsRow base e size v n xs) (A : Option Addr) (m c : Nat) (news : List Value) (hx : a.eval x = .slice A m c)
    (hl : news.length = m * size) (hr : RdC w A news) (h1 : ∀ u ∈ news, u.oneCell' = true) (h63 : n + m ≤ maxLen) (hbytes : (n + m) * bytes ≤ 140737488355328) (hbase : base ≤ w.heap.size)
    (h : ∀ v' w', w'.ownsRow base e size v' (n + m) (xs ++ news) → w.grownBy w' v.ownBlock → (∀ k, v'.ownBlock = some k → v.ownBlock = some k ∨ k = w.heap.size) → wpList P ops Q rest (a.put o.dst v') w') : wpList P ops Q (o :: rest) a w :=
  wpList_plain hgd fun _ hK => by
    obtain ⟨v', w', hrun, h2, h3, h4⟩ := run_app2 E o.type w base v n xs hown A m c news hl hr h1 h63 hbytes hbase
    unfold Oper.wp
    simp [execOp, ho, resolve, invoke, builtin, hs, hx, hrun, Result.andThen]
    exact hK _ _ (h v' w' h2 h3 h4)
end
/-- A row of bytes that is new. -/
def NewRow (w w' : World) (v : Value) (l : List UInt8) : Prop := w'.ownsRow w.heap.size 5 1 v l.length (u8v l) ∧ Below w.heap.size w w'

theorem numB_len (n : Nat) (h : n < 18446744073709551616) : (numB n).length = max 1 ((Lib.bitLen n + 6) / 7) := by
  induction n using Nat.strongRecOn with
  | ind n ih =>
    by_cases hs : n < 128
    · rw [numB_small hs]
      have := Lib.bitLen_le n 7 (by omega) hs
      simp only [List.length_singleton]
      omega
    · rw [numB_big hs, List.length_cons, ih (n / 128) (by omega) (by omega)]
      have h1 := Lib.bitLen_shift 7 n (by omega) h
      have h2 := (Lib.bitLenAux_bounds 64 (n / 128) (by omega) (by omega)).1
      rw [show n / 2 ^ 7 = n / 128 from rfl] at h1
      rw [h1]
      unfold Lib.bitLen
      omega
/-- One byte, in a new row. -/
theorem rd_one (w : World) (x : UInt8) {g : Nat} (h : w.heap[g]? = some (.cells #[.int .u8 (x.toNat : Int)] 5 (0, 0))) : RdC w (some ⟨g, 0, none⟩) (u8v [x]) := fun j u hj => by
  refine ⟨_, rfl, ?_⟩
  rw [addr_add_plain, Nat.zero_add, cell_of_row _ _ j _ _ _ h, ← hj]
  simp [u8v]
set_option maxHeartbeats 1000000 in
theorem twin_any (A : Option Addr) (n c : Nat) (l : List UInt8) (hl : l.length = n) (hn : n ≤ 100000000) (w : World) (hr : RdC w A (u8v l)) : Calls Try.prog 27 #[.slice A n c] w fun e w' => ∃ v, e = .returned v ∧ NewRow w w' v l := by
  subst hl
  go_enter Try.func27, Try.ntmps27
  go_wp2_with (at_builtin; refine wpList_app elt8 rfl (.tmp 4) (.tmp 5) rfl w.heap.size (.slice none 0 0) 0 [] rfl (World.ownsRow_nil ..) A l.length c (u8v l) rfl (by rw [u8v_length]; omega) hr (u8v_one l) (by unfold maxLen; omega) (by omega) (Nat.le_refl _) ?_; intro v' w' ho hg)
  go_ret
  rw [Nat.zero_add, List.nil_append] at ho
  exact ⟨v', rfl, ho, below_grown (Below.refl _ w) (World.ownsRow_nil w w.heap.size 5 1) hg (Nat.le_refl _) (Nat.le_refl _)⟩
set_option maxHeartbeats 1000000 in
theorem clone_any (A : Option Addr) (n c : Nat) (l : List UInt8) (hl : l.length = n) (hn : n ≤ 100000000) (w : World) (hr : RdC w A (u8v l)) (hA : A = none → n = 0) : Calls Try.prog 40 #[.slice A n c] w fun e w' => ∃ v, e = .returned v ∧ NewRow w w' v l := by
  subst hl
  have q : ∀ (w : World) (a : Option Addr) (n c n' c' : Nat), (binOp .eql 33 (.slice a n c) (.slice none n' c')).run Try.prog w = .ok (.bool a.isNone) w := fun w a n c n' c' => Lib.run_eql_slice_nil w _ _ a n c n' c' Try.underlying33
  cases A with
  | none =>
    have : l = [] := List.length_eq_zero_iff.1 (hA rfl)
    subst this
    go_enter Try.func40, Try.ntmps40
    go_wp2
    go_ret
    exact ⟨_, rfl, World.ownsRow_nil .., Below.refl _ _⟩
  | some a =>
    have ho0 : (w.alloc (.cells #[] 5)).ownsRow w.heap.size 5 1 (.slice (some ⟨w.heap.size, 0, none⟩) 0 0) 0 [] := World.ownsRow_made w #[] 0 (Nat.le_refl _) (by unfold maxLen; omega) rfl
    go_enter Try.func40, Try.ntmps40
    go_wp2_with (at_builtin; refine wpList_app elt8 rfl (.tmp 5) (.tmp 6) rfl w.heap.size (.slice (some ⟨w.heap.size, 0, none⟩) 0 0) 0 [] rfl ho0 (some a) l.length c (u8v l) rfl (by rw [u8v_length]; omega) (hr.alloc _) (u8v_one l) (by unfold maxLen; omega) (by omega) (by simp) ?_; intro v' w' ho hg)
    go_ret
    rw [Nat.zero_add, List.nil_append] at ho
    exact ⟨v', rfl, ho, below_grown ((Below.refl _ w).alloc (Nat.le_refl _) _) ho0 hg (by simp) (Nat.le_refl _)⟩

set_option maxRecDepth 100000 in
set_option maxHeartbeats 2000000 in
theorem rnumber_any (m : Nat) (hm : m < 18446744073709551616) (w : World) : Calls Try.prog 45 #[.int .u64 (m : Int)] w fun e w' => ∃ v, e = .returned v ∧ NewRow w w' v (numB m) := by
  go_enter Try.func45, Try.ntmps45
  go_wp2
  go_loopw [0, 3] (fun i b wr => ∃ (pre : List UInt8) (k : Nat), k < 18446744073709551616 ∧ i = .int .u64 (k : Int) ∧ wr.ownsRow w.heap.size 5 1 b pre.length (u8v pre) ∧ Below w.heap.size w wr ∧ pre ++ numB k = numB m ∧ pre.length ≤ 10) (fun i _ _ => (intOf i).toNat)
  case atStart => exact ⟨[], m, hm, rfl, World.ownsRow_nil .., Below.refl _ _, rfl, by simp⟩
  case round =>
    obtain ⟨pre, k, hk, rfl, ho, hb, hpre, hp10⟩ := hrel
    have hle : (pre ++ numB k).length ≤ 10 := by rw [hpre]; exact numB_ten m hm
    rw [List.length_append] at hle
    have hkp := numB_pos k
    by_cases hlt : k < 128
    · rw [numB_small hlt] at hpre
      have hx : ((UInt8.ofNat k).toNat : Int) = (k : Int) := by rw [UInt8.toNat_ofNat', Nat.mod_eq_of_lt (by omega)]
      go_wp2_with (at_builtin; refine wpList_app elt8 rfl (.tmp 15) (.tmp 18) rfl w.heap.size u3 pre.length (u8v pre) rfl (ho.alloc _) (some ⟨wr.heap.size, 0, none⟩) 1 1 (u8v [UInt8.ofNat k]) rfl rfl (rd_one _ (UInt8.ofNat k) (by rw [hx]; exact heap_alloc_new _ _)) (u8v_one _) (by unfold maxLen; omega) (by omega) (by rw [World.size_alloc]; have := hb.size; omega) ?_; intro v' w' ho2 hg2)
      go_ret
      have hln : pre.length + 1 = (numB m).length := by rw [← hpre]; simp
      rw [← u8v_append, hpre, hln] at ho2
      exact ⟨v', rfl, ho2, below_grown (hb.alloc hb.size _) (ho.alloc _) hg2 (by rw [World.size_alloc]; have := hb.size; omega) (Nat.le_refl _)⟩
    · rw [numB_big hlt] at hpre
      have hx : ((UInt8.ofNat (k % 128 + 128)).toNat : Int) = 128 + (k : Int) % 128 := by rw [UInt8.toNat_ofNat', Nat.mod_eq_of_lt (by omega)]; omega
      go_wp2_with (at_builtin; refine wpList_app elt8 rfl (.tmp 6) (.tmp 11) rfl w.heap.size u3 pre.length (u8v pre) rfl (ho.alloc _) (some ⟨wr.heap.size, 0, none⟩) 1 1 (u8v [UInt8.ofNat (k % 128 + 128)]) rfl rfl (rd_one _ (UInt8.ofNat (k % 128 + 128)) (by rw [hx]; exact heap_alloc_new _ _)) (u8v_one _) (by unfold maxLen; omega) (by omega) (by rw [World.size_alloc]; have := hb.size; omega) ?_; intro v' w' ho2 hg2)
      go_roundw
      case rel =>
        refine ⟨pre ++ [UInt8.ofNat (k % 128 + 128)], k / 128, by omega, by rw [Int.natCast_ediv]; rfl, ?_, below_grown (hb.alloc hb.size _) (ho.alloc _) hg2 (by rw [World.size_alloc]; have := hb.size; omega) (Nat.le_refl _), by rw [List.append_assoc]; exact hpre, by rw [List.length_append, List.length_singleton]; omega⟩
        rw [u8v_append, List.length_append, List.length_singleton]
        exact ho2
      case measure => simp only [intOf]; omega
/-- A Sink's step. -/
def SinkStep (g : Nat) (v : Value) (w : World) (xs : List UInt8) (v' : Value) (w' : World) : Prop :=
  SinkAt g v' xs w' ∧ (∀ k, v'.ownBlock = some k → k < w.heap.size → v.ownBlock = some k) ∧ Kept (fun k => k = g ∨ v.ownBlock = some k) w w'
theorem SinkStep.trans {g : Nat} {v v1 v2 : Value} {w w1 w2 : World} {a b : List UInt8} (h1 : SinkStep g v w a v1 w1) (h2 : SinkStep g v1 w1 b v2 w2) : SinkStep g v w b v2 w2 :=
  ⟨h2.1, fun k hk hkw => h1.2.1 k (h2.2.1 k hk (Nat.lt_of_lt_of_le hkw h1.2.2.size)) hkw,
    ⟨h2.2.2.os.trans h1.2.2.os, h2.2.2.tape.trans h1.2.2.tape, h2.2.2.output.trans h1.2.2.output, Nat.le_trans h1.2.2.size h2.2.2.size, fun k hk he => by
      rw [h2.2.2.block k (Nat.lt_of_lt_of_le hk h1.2.2.size) (fun h => h.elim (fun h => he (.inl h)) fun h => he (.inr (h1.2.1 k h hk)))]
      exact h1.2.2.block k hk he⟩⟩
theorem Kept.of_below {ex : Nat → Prop} {w w' : World} (h : Below w.heap.size w w') : Kept ex w w' := ⟨h.os, h.tape, h.output, h.size, fun k hk _ => h.block k hk⟩
theorem SinkAt.below {g : Nat} {v : Value} {xs : List UInt8} {w w' : World} (h : SinkAt g v xs w) (hb : Below w.heap.size w w') : SinkAt g v xs w' := ⟨(hb.block g (lt_get h.1)).trans h.1, own_below h.2 hb⟩
set_option maxHeartbeats 1000000 in
theorem all_any (g : Nat) (v : Value) (xs : List UInt8) (hn : xs.length ≤ 100000000) (w : World) (hS : SinkAt g v xs w) :
    Calls Try.prog 44 #[.pointer (some ⟨g, 0, none⟩)] w fun e w' => ∃ v', e = .returned v' ∧ NewRow w w' v' xs := by
  obtain ⟨hg, ho⟩ := hS
  obtain ⟨A, c, rfl, hnc, hc, hr, _⟩ := RdC.of_own ho
  have hA : A = none → xs.length = 0 := fun h => by
    rcases Nat.eq_zero_or_pos xs.length with h0 | h0
    · exact h0
    · obtain ⟨_, e, _⟩ := hr 0 _ (u8v_get xs 0 h0)
      rw [h] at e; cases e
  have c1 : w.cell? ⟨g, 0, none⟩ = some (.slice A xs.length c) := by rw [cell_of_row _ _ _ _ _ _ hg]; rfl
  go_enter Try.func44, Try.ntmps44
  go_wp2_with (go_at_call 40; refine (clone_any A xs.length c xs rfl hn w hr hA).mono ?_; rintro e w1 ⟨v1, rfl, ho1, hb1⟩)
  go_ret
  exact ⟨_, rfl, ho1, hb1⟩
end Go.Proofs.Ytfifbjlmbdgmjaa
