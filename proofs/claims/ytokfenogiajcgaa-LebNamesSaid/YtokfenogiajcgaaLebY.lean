/- leb: a Source's readers. -/
import Derived.Test.YtokfenogiajcgaaLebX
import Derived.Defers
namespace Go.Proofs.Ytokfenogiajcgaa
open Go.RowKit Go.Shelf
attribute [local go_sem] Oper.semAt_some

/-- What 'Raw' answers: the error, the bytes, what is left. -/
def rawR (l : List UInt8) (k : Int) : Int × List UInt8 × List UInt8 := if k < 0 then (2, [], l) else if (l.length : Int) < k then (10, [], l) else (0, l.take k.toNat, l.drop k.toNat)
/-- What 'Bytes' answers. -/
def bytesR (l : List UInt8) (most : Int) : Int × List UInt8 × List UInt8 :=
  if (readN l (max 0 most).toNat).2.1 ≠ 0 then (((readN l (max 0 most).toNat).2.1 : Int), [], l)
  else if (rawR (l.drop (readN l (max 0 most).toNat).2.2) ((readN l (max 0 most).toNat).1 : Int)).1 ≠ 0 then ((rawR (l.drop (readN l (max 0 most).toNat).2.2) ((readN l (max 0 most).toNat).1 : Int)).1, [], l)
  else rawR (l.drop (readN l (max 0 most).toNat).2.2) ((readN l (max 0 most).toNat).1 : Int)
/-- What a reading leaves: the Source, and new bytes ov. -/
def ReadStep (t : TypeId) (g : Nat) (v : Value) (w : World) (ov : Value) (x rest : List UInt8) (w' : World) : Prop :=
  (∃ v', v'.ownBlock = v.ownBlock ∧ SrcStep t g w v' rest w') ∧ w'.ownsRow w.heap.size 5 1 ov x.length (u8v x)
theorem Src.lt {t : TypeId} {g : Nat} {v : Value} {l : List UInt8} {W : World} (h : Src t g v l W) : g < W.heap.size := lt_get h.1
theorem Src.rd {t : TypeId} {g : Nat} {A : Option Addr} {n c : Nat} {l : List UInt8} {W : World} (h : Src t g (.slice A n c) l W) : RdC W A (u8v l) ∧ l.length = n ∧ n ≤ c ∧ c ≤ maxLen ∧ ∀ ad, A = some ad → ad.block ≠ g := by
  obtain ⟨_, A', c', e, h1, h2, h3, h4⟩ := h
  injection e with e1 e2 e3
  subst e1 e3
  exact ⟨h3, e2.symm, by omega, h2, h4⟩
set_option maxHeartbeats 1000000 in
theorem from_any (A : Option Addr) (n c : Nat) (l : List UInt8) (hl : l.length = n) (hn : n ≤ 100000000) (w : World) (hr : RdC w A (u8v l)) :
    Calls Try.prog 19 #[.slice A n c] w fun e w' => ∃ g v, e = .returned (.pointer (some ⟨g, 0, none⟩)) ∧ w.heap.size ≤ g ∧ Src 62 g v l w' ∧ Below w.heap.size w w' ∧ ∀ b, v.ownBlock = some b → w.heap.size ≤ b ∧ b < g := by
  subst hl
  have hcl := clone_any A l.length c l rfl hn w hr (fun h => by
    subst h
    cases l with
    | nil => rfl
    | cons b l => obtain ⟨_, e, _⟩ := hr 0 _ (u8v_get (b :: l) 0 (by simp)); cases e)
  go_enter Try.func19, Try.ntmps19
  go_wp2_with (go_at_call 34; refine hcl.mono ?_; rintro e w1 ⟨v, rfl, ho, hb⟩; obtain ⟨A1, c1, rfl, _⟩ := RdC.of_own ho)
  go_ret
  obtain ⟨A2, c2, e, h1, h2, h3, _⟩ := RdC.of_own ho
  injection e with e1 e2 e3
  subst e1 e3
  refine ⟨_, _, rfl, hb.size, ⟨Boxed.new w1 _ _, _, _, rfl, h1, h2, h3.alloc _, fun ad e => ?_⟩, hb.alloc hb.size _, fun b hb' => ho.lt b hb'⟩
  have := (ho.lt ad.block (by rw [e]; rfl)).2
  omega
set_option maxHeartbeats 1000000 in
theorem left_any (g : Nat) (v : Value) (l : List UInt8) (w : World) (hS : Src 62 g v l w) : Calls Try.prog 26 #[.pointer (some ⟨g, 0, none⟩)] w fun e w' => e = .returned (.int .i64 (l.length : Int)) ∧ w' = w := by
  obtain ⟨h1, A, c, rfl, h2, h3, _⟩ := hS
  have c1 := Boxed.cell h1
  go_enter Try.func26, Try.ntmps26
  go_wp2
  go_ret
  exact ⟨rfl, rfl⟩
def endE (l : List UInt8) : Int := if 0 < l.length then 13 else 0
set_option maxHeartbeats 1000000 in
theorem end_any (g : Nat) (v : Value) (l : List UInt8) (w : World) (hS : Src 62 g v l w) : Calls Try.prog 27 #[.pointer (some ⟨g, 0, none⟩)] w fun e w' => e = .returned (.int .i64 (endE l)) ∧ w' = w := by
  obtain ⟨h1, A, c, rfl, h2, h3, _⟩ := hS
  have c1 := Boxed.cell h1
  unfold endE
  by_cases h0 : 0 < l.length
  · rw [if_pos h0]
    go_enter Try.func27, Try.ntmps27
    go_wp2
    go_ret
    exact ⟨rfl, rfl⟩
  · rw [if_neg h0]
    have he : l.length = 0 := by omega
    rw [he] at c1
    clear h0 he
    go_enter Try.func27, Try.ntmps27
    go_wp2
    go_ret
    exact ⟨rfl, rfl⟩
set_option maxHeartbeats 2000000 in
theorem sraw_any (g : Nat) (v : Value) (l : List UInt8) (hl : l.length ≤ 100000000) (k : Int) (hk1 : -9223372036854775808 ≤ k) (hk2 : k ≤ 9223372036854775807) (w : World) (hS : Src 62 g v l w) :
    Calls Try.prog 24 #[.pointer (some ⟨g, 0, none⟩), .int .i64 k] w fun e w' => ∃ ov, e = .returned (.tuple #[ov, .int .i64 (rawR l k).1]) ∧ ReadStep 62 g v w ov (rawR l k).2.1 (rawR l k).2.2 w' := by
  have hS0 := hS
  have hgl := hS.lt
  obtain ⟨h1, A, c, rfl, h2, h3, h4, h5⟩ := hS
  have c1 := Boxed.cell h1
  have f1 := Boxed.frozen h1
  unfold rawR
  by_cases hn : k < 0
  · rw [if_pos hn]
    go_enter Try.func24, Try.ntmps24
    go_wp2
    go_ret2
    exact ⟨_, rfl, ⟨_, rfl, hS0, Kept.refl _ _⟩, World.ownsRow_nil ..⟩
  · rw [if_neg hn]
    by_cases hm : (l.length : Int) < k
    · rw [if_pos hm]
      go_enter Try.func24, Try.ntmps24
      go_wp2
      go_ret2
      exact ⟨_, rfl, ⟨_, rfl, hS0, Kept.refl _ _⟩, World.ownsRow_nil ..⟩
    · rw [if_neg hm]
      obtain ⟨kn, rfl⟩ : ∃ kn : Nat, k = (kn : Int) := ⟨k.toNat, by omega⟩
      rw [Int.toNat_natCast]
      have hkn : kn ≤ l.length := by omega
      have hcl := clone_any A kn c (l.take kn) (by rw [List.length_take]; omega) (by omega) w (by rw [← u8v_take]; exact h4.take _) (fun h => by
        subst h
        cases l with
        | nil => simpa using hkn
        | cons b l => obtain ⟨_, e, _⟩ := h4 0 _ (u8v_get (b :: l) 0 (by simp)); cases e)
      have s1 : ∀ W : World, (Instr.slice 24 (.slice A l.length c) none (some (.int .i64 (kn : Int))) none).run Try.prog W = .ok (.slice A kn c) W := fun W => run_sub_h (P := Try.prog) W 24 A l.length c 1 Try.underlying24 (Try.sizeOf5 W) _ kn rfl (by omega)
      have s2 : ∀ W : World, (Instr.slice 24 (.slice A l.length c) (some (.int .i64 (kn : Int))) none none).run Try.prog W = .ok (.slice (subA A c kn 1) (l.length - kn) (c - kn)) W := fun W => run_sub_l (P := Try.prog) W 24 A l.length c 1 Try.underlying24 (Try.sizeOf5 W) _ kn rfl (by omega)
      have hlt : (l.take kn).length = kn := by rw [List.length_take]; omega
      have HLT := Lib.hid hlt
      clear hlt
      have HS := Lib.hid hS0
      clear hn hS0
      go_enter Try.func24, Try.ntmps24
      go_wp2_with (go_at_call 34; refine hcl.mono ?_; rintro e w1 ⟨ov, hov, ho, hb⟩; rw [HLT.out] at ho; obtain ⟨A1, n1, rfl, _⟩ := RdC.of_own ho; subst hov; have c2 := (boxed_below h1 hb).cell; have f2 := (boxed_below h1 hb).frozen)
      go_ret2
      have hh := boxed_below h1 hb
      have hne : ∀ b, (Value.slice A1 kn n1).ownBlock = some b → b ≠ g := fun b hb2 => by have := (ho.lt b hb2).1; omega
      refine ⟨.slice A1 kn n1, rfl, ⟨.slice (subA A c kn 1) (l.length - kn) (c - kn), by rw [own_slice, own_slice, subA_map], ⟨hh.set _, subA A c kn 1, c - kn, by rw [List.length_drop], by rw [List.length_drop]; omega, by omega, ?_, subA_ne h5⟩, ?_⟩, ?_⟩
      · have hr := ((h4.drop c kn 1 (by rw [u8v_length]; omega)).below hb)
        rw [Nat.mul_one, u8v_drop] at hr
        exact hr.setBox hh (fun x e => by cases e) _
      · exact ⟨hb.os, hb.tape, hb.output, by simpa using hb.size, fun j hj he => by rw [heap_setCell_other _ _ _ _ (show j ≠ g from he)]; exact hb.block j hj⟩
      · rw [HLT.out]
        exact own_of_block ho fun b hb2 => heap_setCell_other _ _ _ _ (hne b hb2)
/-- What lies while bytes are read. -/
structure BytI (g : Nat) (A : Option Addr) (n c : Nat) (w : World) (e : Int) (W : World) : Prop where
  b0 : Boxed W w.heap.size 42 (.int .i64 e)
  b1 : Boxed W (w.heap.size + 1) 37 (.pointer (some ⟨g, 0, none⟩))
  b2 : Boxed W (w.heap.size + 2) 67 (.pointer (some ⟨w.heap.size, 0, none⟩))
  b3 : Boxed W (w.heap.size + 3) 24 (.slice A n c)
  kp : Kept (fun k => k = g) w W
theorem BytI.kept {g : Nat} {A : Option Addr} {n c : Nat} {w : World} {e : Int} {W W' : World} (h : BytI g A n c w e W) (hg : g < w.heap.size) (hk : Kept (fun k => k = g) W W') : BytI g A n c w e W' :=
  ⟨(hk.block _ h.b0.lt (by omega)).trans h.b0, (hk.block _ h.b1.lt (by omega)).trans h.b1, (hk.block _ h.b2.lt (by omega)).trans h.b2, (hk.block _ h.b3.lt (by omega)).trans h.b3, h.kp.trans hk⟩
theorem BytI.err {g : Nat} {A : Option Addr} {n c : Nat} {w : World} {e : Int} {W : World} (h : BytI g A n c w e W) (e' : Int) : BytI g A n c w e' (W.setCell ⟨w.heap.size, 0, none⟩ (.int .i64 e')) :=
  ⟨h.b0.set _, h.b1.other (by omega) _, h.b2.other (by omega) _, h.b3.other (by omega) _, h.kp.setNew (Nat.le_refl _) _⟩
theorem BytI.drew {g : Nat} {A : Option Addr} {n c : Nat} {w : World} {e : Int} {W : World} (h : BytI g A n c w e W) : BytI g A n c w e W.drew := ⟨h.b0, h.b1, h.b2, h.b3, h.kp.drew⟩
theorem byt_leaves {g : Nat} {A : Option Addr} {c : Nat} {e : Int} {w W : World} {l x rest : List UInt8} {ov : Value} (tmps : Array Value) (hS : Src 62 g (.slice A l.length c) l w) (hN : BytI g A l.length c w e W)
    (hv : ∃ v, Boxed W g 62 v) (h4 : tmps[4]? = some ov) (h5 : tmps[5]? = some (.pointer (some ⟨w.heap.size, 0, none⟩)))
    (ho : W.ownsRow w.heap.size 5 1 ov x.length (u8v x)) (hout : (e = 0 ∧ ∃ v', v'.ownBlock = A.map (·.block) ∧ Src 62 g v' rest W) ∨ (e ≠ 0 ∧ rest = l)) :
    LeavesIn Fence.wide 5 Try.prog Try.f22 tmps (fun e' w' => ∃ ov, e' = .returned (.tuple #[ov, .int .i64 e]) ∧ ReadStep 62 g (.slice A l.length c) w ov x rest w')
      [{ target := .fn (.func 39) #[.pointer (some ⟨w.heap.size + 2, 0, none⟩), .pointer (some ⟨w.heap.size + 3, 0, none⟩), .pointer (some ⟨w.heap.size + 1, 0, none⟩)], args := #[] }] .returning W := by
  have hgl := lt_get hS.1
  obtain ⟨v, hv⟩ := hv
  have hres : ∀ W', BytI g A l.length c w e W' → (results Try.f22 tmps).run Try.prog W' = .ok (.tuple #[ov, .int .i64 e]) W' := fun W' h => by
    have c0 := h.b0.cell
    simp [results, Try.results22, go_sem, c0, h4, h5]
  rcases hout with ⟨rfl, v', hob, hs⟩ | ⟨he, hll⟩
  · refine ⟨by simp, (fun h => by cases h), _, _, _, _, rfl, (enters_of Try.func39 (by kernel_rfl) rfl _ _), (fun _ _ => trivial), ?_⟩
    refine (back1_no _ _ _ _ _ _ _ hN.b2 hN.b0).mono ?_
    rintro e u' w' ⟨rfl, rfl, rfl⟩
    exact ⟨_, hres _ hN, _, rfl, ⟨v', by rw [own_slice]; exact hob, hs, hN.kp⟩, ho⟩
  · refine ⟨by simp, (fun h => by cases h), _, _, _, _, rfl, (enters_of Try.func39 (by kernel_rfl) rfl _ _), (fun _ _ => trivial), ?_⟩
    refine (back1_yes g _ _ _ _ e A l.length c _ he _ _ _ hN.b2 hN.b0 hN.b3 hN.b1 hv).mono ?_
    rintro e u' w' ⟨rfl, rfl, rfl⟩
    have hk : Kept (fun k => k = g) W (W.setCell ⟨g, 0, none⟩ (.slice A l.length c)) := ⟨rfl, rfl, rfl, by simp, fun j _ hj => heap_setCell_other _ _ _ _ hj⟩
    have hN3 := hN.kept hgl hk
    obtain ⟨_, A', c', hv', q1, q2, q3, q4⟩ := hS
    cases hv'
    rw [hll]
    refine ⟨_, hres _ hN3, _, rfl, ⟨_, rfl, ⟨Boxed.set _ hv, A, c, rfl, q1, q2, q3.kept hN3.kp q4, q4⟩, hN3.kp⟩, own_of_block ho fun k hk2 => heap_setCell_other _ _ _ _ fun e => ?_⟩
    have := (ho.lt k hk2).1
    have e2 : k = g := e
    omega
set_option maxRecDepth 100000 in
set_option maxHeartbeats 4000000 in
theorem sbytes_any (g : Nat) (v : Value) (l : List UInt8) (hl : l.length ≤ 100000000) (most : Int) (hk1 : -9223372036854775808 ≤ most) (hk2 : most ≤ 9223372036854775807) (w : World) (hS : Src 62 g v l w) :
    Calls Try.prog 22 #[.pointer (some ⟨g, 0, none⟩), .int .i64 most] w fun e w' => ∃ ov, e = .returned (.tuple #[ov, .int .i64 (bytesR l most).1]) ∧ ReadStep 62 g v w ov (bytesR l most).2.1 (bytesR l most).2.2 w' := by
  obtain ⟨hsg, A, c, rfl, hlc, hcm, hrd, hne⟩ := id hS
  have hgl := lt_get hsg
  have HSg : Hid (w.heap[g]? = some (.cells #[Value.slice A l.length c] 62 (0, 0))) := Lib.hid hsg
  clear hsg hrd hne
  obtain ⟨m, hmm, hm⟩ : ∃ m : Nat, (max 0 most).toNat = m ∧ max 0 most = (m : Int) := ⟨_, rfl, by omega⟩
  have hml : m ≤ 9223372036854775807 := by omega
  unfold bytesR
  rw [hmm]
  clear hmm
  have hok : ∀ n k, readN l m = (n, 0, k) → _ := fun n k h => readN_ok h
  have hnum := fun W v h => srcnum_wide g m (by omega) l v W h
  generalize readN l m = R at *
  obtain ⟨n, e, k⟩ := R
  simp only at hnum hok ⊢
  obtain ⟨W1, hW1⟩ : ∃ W1, W1 = ((((w.alloc (.cells #[.int .i64 0] 42)).alloc (.cells #[.pointer (some ⟨g, 0, none⟩)] 37)).alloc (.cells #[.pointer (some ⟨w.heap.size, 0, none⟩)] 67)).alloc (.cells #[.slice A l.length c] 24)) := ⟨_, rfl⟩
  have bb : Below w.heap.size w W1 := by rw [hW1]; exact ((((Below.refl _ w).alloc (Nat.le_refl _) _).alloc (by simp only [World.size_alloc]; omega) _).alloc (by simp only [World.size_alloc]; omega) _).alloc (by simp only [World.size_alloc]; omega) _
  have n0 : BytI g A l.length c w 0 W1 := by
    rw [hW1]
    refine ⟨?_, ?_, ?_, ?_, Kept.of_below (by rw [← hW1]; exact bb)⟩
    all_goals repeat (first | (refine boxed_at _ _ _ ?_; simp only [World.size_alloc]; done) | (refine Boxed.alloc ?_ _) | fail)
  have HW := Lib.hid hW1
  clear hW1
  by_cases he : e = 0
  · subst he
    rw [if_neg (by simp)]
    obtain ⟨_, hnm, _⟩ := hok n k rfl
    have hraw := fun W v h => sraw_any g v (l.drop k) (by rw [List.length_drop]; omega) (n : Int) (by omega) (by omega) W h
    have hre : (rawR (l.drop k) (n : Int)).1 ≠ 0 → (rawR (l.drop k) (n : Int)).2.1 = [] := fun h => by
      unfold rawR at h ⊢
      split
      · rfl
      · split
        · rfl
        · rename_i h1 h2
          rw [if_neg h1, if_neg h2] at h
          exact absurd rfl h
    generalize rawR (l.drop k) (n : Int) = R at *
    obtain ⟨er, x, rest⟩ := R
    simp only at hraw hre ⊢
    by_cases hr : er = 0
    · subst hr
      rw [if_neg (by simp)]
      refine (callsIn_wide (n := 5)).1 ?_
      refine callsIn_of_wp_defers Try.func22 rfl trivial ?_ rfl
      simp only [Try.ntmps22, List.size_toArray, List.length_cons, List.length_nil, Nat.reduceAdd, Nat.reduceSub, Array.replicate_succ, Array.replicate_zero, List.push_toArray, List.append_toArray, List.nil_append, List.cons_append]
      gi_wp2_with (first
        | (refine ⟨trivial, ?_⟩; gi_at_call 35; refine (callsIn_wide.2 (back_any g w.heap.size A l.length c _ (((Below.refl _ w).alloc (Nat.le_refl _) _).block g hgl |>.trans HSg.out))).mono ?_; rintro e w' ⟨rfl, rfl⟩)
        | fail)
      refine ⟨trivial, ?_⟩
      simp only [Nat.add_assoc, Nat.reduceAdd]
      rw [← HW.out]
      refine (callsIn_wide.2 (hnum W1 _ (hS.below bb))).mono ?_
      rintro e2 w2 ⟨rfl, v2, hob2, hs2⟩
      rw [own_slice] at hob2
      have n2 := n0.kept hgl hs2.2
      have c0 := n2.b0.cell
      have f0 := n2.b0.frozen
      have hs3 := hs2.1.setBox n2.b0 (fun x e => by cases e) (by omega) (.int .i64 0)
      have h3 := (hraw _ v2 hs3)
      have n3 := n2.err 0
      clear hok hnum HW HSg hraw hre
      gi_wp2_with fail
      refine ⟨trivial, ?_⟩
      refine (callsIn_wide.2 h3).mono ?_
      rintro e3 w3 ⟨ov, rfl, ⟨v3, hob3, hs3b⟩, ho3⟩
      have n4 := n3.kept hgl hs3b.2
      have c4 := n4.b0.cell
      have f4 := n4.b0.frozen
      have n5 := n4.err 0
      have hs5 := hs3b.1.setBox n4.b0 (fun x e => by cases e) (by omega) (.int .i64 0)
      have ho5 : (w3.setCell ⟨w.heap.size, 0, none⟩ (.int .i64 0)).ownsRow w.heap.size 5 1 ov x.length (u8v x) := by
        have hz := n2.b3.lt
        refine own_mono (own_of_block ho3 fun k hk => heap_setCell_other _ _ _ _ fun e => ?_) (by simp; omega)
        have := (ho3.lt k hk).1
        have e2 : k = w.heap.size := e
        simp at this
        omega
      have hfin : ∀ a : Array Value, a[4]? = some ov → a[5]? = some (.pointer (some ⟨w.heap.size, 0, none⟩)) → _ := fun a g4 g5 => byt_leaves a hS n5 ⟨_, hs5.1⟩ g4 g5 ho5 (.inl ⟨rfl, _, hob3.trans hob2, hs5⟩)
      gi_wp2_with fail
      exact hfin _ rfl rfl
    · rw [if_pos hr]
      obtain rfl : x = [] := hre hr
      refine (callsIn_wide (n := 5)).1 ?_
      refine callsIn_of_wp_defers Try.func22 rfl trivial ?_ rfl
      simp only [Try.ntmps22, List.size_toArray, List.length_cons, List.length_nil, Nat.reduceAdd, Nat.reduceSub, Array.replicate_succ, Array.replicate_zero, List.push_toArray, List.append_toArray, List.nil_append, List.cons_append]
      gi_wp2_with (first
        | (refine ⟨trivial, ?_⟩; gi_at_call 35; refine (callsIn_wide.2 (back_any g w.heap.size A l.length c _ (((Below.refl _ w).alloc (Nat.le_refl _) _).block g hgl |>.trans HSg.out))).mono ?_; rintro e w' ⟨rfl, rfl⟩)
        | fail)
      refine ⟨trivial, ?_⟩
      simp only [Nat.add_assoc, Nat.reduceAdd]
      rw [← HW.out]
      refine (callsIn_wide.2 (hnum W1 _ (hS.below bb))).mono ?_
      rintro e2 w2 ⟨rfl, v2, hob2, hs2⟩
      rw [own_slice] at hob2
      have n2 := n0.kept hgl hs2.2
      have c0 := n2.b0.cell
      have f0 := n2.b0.frozen
      have hs3 := hs2.1.setBox n2.b0 (fun x e => by cases e) (by omega) (.int .i64 0)
      have h3 := (hraw _ v2 hs3)
      have n3 := n2.err 0
      clear hok hnum HW HSg hraw hre
      gi_wp2_with fail
      refine ⟨trivial, ?_⟩
      refine (callsIn_wide.2 h3).mono ?_
      rintro e3 w3 ⟨ov, rfl, ⟨v3, hob3, hs3b⟩, ho3⟩
      have n4 := n3.kept hgl hs3b.2
      have c4 := n4.b0.cell
      have f4 := n4.b0.frozen
      have n5 := n4.err er
      have hv5 := Boxed.other hs3b.1.1 (show g ≠ w.heap.size by omega) (.int .i64 er)
      have ho5 : (w3.setCell ⟨w.heap.size, 0, none⟩ (.int .i64 er)).ownsRow w.heap.size 5 1 ov ([] : List UInt8).length (u8v []) := by
        have hz := n2.b3.lt
        refine own_mono (own_of_block ho3 fun k hk => heap_setCell_other _ _ _ _ fun e => ?_) (by simp; omega)
        have := (ho3.lt k hk).1
        have e2 : k = w.heap.size := e
        simp at this
        omega
      have hfin : ∀ a : Array Value, a[4]? = some ov → a[5]? = some (.pointer (some ⟨w.heap.size, 0, none⟩)) → _ := fun a g4 g5 => byt_leaves (x := []) (rest := l) a hS n5 ⟨_, hv5⟩ g4 g5 ho5 (.inr ⟨hr, rfl⟩)
      gi_wp2_with fail
      exact hfin _ rfl rfl
  · have h1 : ((e : Int) != 0) = true := by rw [bne_iff_ne]; omega
    have h2 : ((e : Int) == 0) = false := by rw [beq_eq_false_iff_ne]; omega
    rw [if_pos he]
    refine (callsIn_wide (n := 5)).1 ?_
    refine callsIn_of_wp_defers Try.func22 rfl trivial ?_ rfl
    simp only [Try.ntmps22, List.size_toArray, List.length_cons, List.length_nil, Nat.reduceAdd, Nat.reduceSub, Array.replicate_succ, Array.replicate_zero, List.push_toArray, List.append_toArray, List.nil_append, List.cons_append]
    gi_wp2_with (first
      | (refine ⟨trivial, ?_⟩; gi_at_call 35; refine (callsIn_wide.2 (back_any g w.heap.size A l.length c _ (((Below.refl _ w).alloc (Nat.le_refl _) _).block g hgl |>.trans HSg.out))).mono ?_; rintro e w' ⟨rfl, rfl⟩)
      | fail)
    refine ⟨trivial, ?_⟩
    simp only [Nat.add_assoc, Nat.reduceAdd]
    rw [← HW.out]
    refine (callsIn_wide.2 (hnum W1 _ (hS.below bb))).mono ?_
    rintro e2 w2 ⟨rfl, v2, hob2, hs2⟩
    rw [own_slice] at hob2
    have n2 := n0.kept hgl hs2.2
    have c0 := n2.b0.cell
    have f0 := n2.b0.frozen
    have hv2 := Boxed.other hs2.1.1 (show g ≠ w.heap.size by omega) (.int .i64 (e : Int))
    have n3 := n2.err (e : Int)
    have hfin : ∀ a : Array Value, a[4]? = some (.slice none 0 0) → a[5]? = some (.pointer (some ⟨w.heap.size, 0, none⟩)) → _ := fun a g4 g5 => byt_leaves (W := ((w2.setCell ⟨w.heap.size, 0, none⟩ (.int .i64 (e : Int))).setCell ⟨w.heap.size, 0, none⟩ (.int .i64 (e : Int))).drew) (x := []) (rest := l) a hS (n3.err (e : Int)).drew ⟨_, Boxed.other hv2 (show g ≠ w.heap.size by omega) (.int .i64 (e : Int))⟩ g4 g5 (World.ownsRow_nil ..) (.inr ⟨by omega, rfl⟩)
    have hmx : Try.prog.follows .mixedOrders = true := by kernel_rfl
    clear hok hnum HW HSg hm he
    gi_wp2_with fail
    gi_region
    all_goals gi_wp2
    all_goals exact hfin _ rfl rfl
end Go.Proofs.Ytokfenogiajcgaa
