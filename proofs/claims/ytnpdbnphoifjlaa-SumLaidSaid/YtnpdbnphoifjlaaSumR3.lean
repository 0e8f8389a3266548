/- First and Unwrap of the reference of sums. -/
import Derived.Test.YtnpdbnphoifjlaaSumR2
namespace Go.Proofs.Ytnpdbnphoifjlaa
open Go.RowKit

/-- What the reference's First answers. -/
def RFirstEnd (w : World) (b : List UInt8) (e : Ending) (w' : World) : Prop :=
  (∃ x r v, firstB b = some (x, r) ∧ x.length + 8 + r.length = b.length ∧ e = .returned (.tuple #[v, .int .i64 ((x.length + 8 : Nat) : Int), .int .i64 0]) ∧ w'.ownsRow w.heap.size 5 1 v x.length (u8v x) ∧ Below w.heap.size w w') ∨
  (firstB b = none ∧ e = .returned (.tuple #[.slice none 0 0, .int .i64 0, .int .i64 20]) ∧ Below w.heap.size w w')
theorem fourB_numB (b : List UInt8) (h : 4 ≤ b.length) : fourB (numB b) = b.take 4 := by
  match b, h with
  | a :: b :: c :: d :: r, _ =>
    have ha := a.toNat_lt
    have hb := b.toNat_lt
    have hc := c.toNat_lt
    have hd := d.toNat_lt
    simp only [fourB, numB, List.getD_cons_zero, List.getD_cons_succ, List.take_succ_cons, List.take_zero]
    congr 1
    · exact UInt8.toNat_inj.1 (by rw [UInt8.toNat_ofNat']; omega)
    congr 1
    · exact UInt8.toNat_inj.1 (by rw [UInt8.toNat_ofNat']; omega)
    congr 1
    · exact UInt8.toNat_inj.1 (by rw [UInt8.toNat_ofNat']; omega)
    congr 1
    exact UInt8.toNat_inj.1 (by rw [UInt8.toNat_ofNat']; omega)
theorem numB_fourB (n : Nat) (h : n < 4294967296) : numB (fourB n) = n := by
  simp only [fourB, numB, List.getD_cons_zero, List.getD_cons_succ, UInt8.toNat_ofNat']
  omega
theorem numB_take (b : List UInt8) : numB (b.take 4) = numB b := by simp [numB, List.getD, List.getElem?_take]
theorem ofN_two (a b : List UInt8) : ofN [a, b] = ofN [a ++ b] := by
  unfold ofN
  simp only [List.foldl_cons, List.foldl_nil]
  unfold onN
  have h := overN_lt a 4294967295 (by omega)
  rw [Nat.sub_zero, show 4294967295 - (4294967295 - overN 4294967295 a) = overN 4294967295 a by omega]
  congr 1
  unfold overN
  rw [List.foldl_append]
/-- Wrapped anew they are what they were just if the sum fits. -/
theorem wrap_same (b : List UInt8) (m : Nat) (hm : m = numB b) (hl : 8 + m ≤ b.length) : wrapB ((b.drop 4).take m) = b.take (m + 8) ↔ numB (b.drop (4 + m)) = ofN [b.take (4 + m)] := by
  have hx : ((b.drop 4).take m).length = m := by simp; omega
  have h4 : fourB m = b.take 4 := by rw [hm]; exact fourB_numB b (by omega)
  have e1 : b.take (m + 8) = b.take 4 ++ (b.drop 4).take m ++ (b.drop (4 + m)).take 4 := by
    rw [show m + 8 = 4 + (m + 4) by omega, List.take_add, List.take_add, List.drop_drop, ← List.append_assoc]
  have e2 : b.take (4 + m) = b.take 4 ++ (b.drop 4).take m := by rw [List.take_add]
  unfold wrapB
  rw [hx, h4, e1, ofN_two, ← e2, List.append_cancel_left_eq]
  constructor
  · intro h
    rw [← numB_take, ← h, numB_fourB _ (ofN_lt _)]
  · intro h
    rw [← h]
    exact fourB_numB _ (by simp; omega)

set_option maxHeartbeats 1000000 in
theorem rfirst_short (A : Option Addr) (c : Nat) (b : List UInt8) (w : World) (hl : b.length < 8) :
    Calls Try.prog 21 #[.slice A b.length c] w fun e w' => e = .returned (.tuple #[.slice none 0 0, .int .i64 0, .int .i64 20]) ∧ w = w' := by
  go_enter Try.func21, Try.ntmps21
  go_wp2_with fail
  go_ret3
  exact ⟨rfl, rfl⟩
set_option maxHeartbeats 1000000 in
theorem rfirst_great (A : Option Addr) (c : Nat) (b : List UInt8) (w : World) (hr : RdC w A (u8v b)) (hl : 8 ≤ b.length) (hl2 : b.length ≤ 140737488355328) (ho : 4194304 < numB b ∨ b.length < 8 + numB b) :
    Calls Try.prog 21 #[.slice A b.length c] w fun e w' => e = .returned (.tuple #[.slice none 0 0, .int .i64 0, .int .i64 20]) ∧ w = w' := by
  have hnum := rnumber_any A b.length c b rfl w hr (by omega)
  have hlt := numB_lt b
  generalize numB b = m at *
  by_cases hm : 4194304 < m
  all_goals
    go_enter Try.func21, Try.ntmps21
    go_wp2_with fail
    refine hnum.mono ?_
    rintro e w1 ⟨rfl, rfl⟩
    go_wp2_with fail
    go_ret3
    exact ⟨rfl, rfl⟩
set_option maxHeartbeats 2000000 in
theorem rfirst_go (A : Option Addr) (c : Nat) (b : List UInt8) (w : World) (hr : RdC w A (u8v b)) (hl : 8 ≤ b.length) (hl2 : b.length ≤ 140737488355328) (hc : b.length ≤ c) (hn : numB b ≤ 4194304) (ho : ¬ b.length < 8 + numB b) :
    Calls Try.prog 21 #[.slice A b.length c] w (RFirstEnd w b) := by
  have hnum := rnumber_any A b.length c b rfl w hr (by omega)
  have hfb : firstB b = if numB (b.drop (4 + numB b)) ≠ ofN [b.take (4 + numB b)] then none else some ((b.drop 4).take (numB b), b.drop (8 + numB b)) := by
    unfold firstB
    rw [if_neg (by omega), if_neg ho]
  obtain ⟨m, hm⟩ : ∃ m, m = numB b := ⟨_, rfl⟩
  have hsame := wrap_same b m hm (by omega)
  rw [← hm] at hnum hn ho hfb
  clear hm
  have s1 := fun W => run_sub_lh (P := Try.prog) W 22 A b.length c 1 Try.underlying22 (Try.sizeOf5 W) 4 (4 + (m : Int)) 4 (4 + m) (by omega) (by omega) (by omega) (by omega)
  have s2 := fun W => run_sub_h (P := Try.prog) W 22 A b.length c 1 Try.underlying22 (Try.sizeOf5 W) ((m : Int) + 8) (m + 8) (by omega) (by omega)
  have hx : ((b.drop 4).take m).length = m := by simp; omega
  have hxr : Hid (((b.drop 4).take m).length + 8 + (b.drop (8 + m)).length = b.length) := by show _ = _; rw [hx]; simp; omega
  have hrx : RdC w (subA A c 4 1) (u8v ((b.drop 4).take m)) := by
    have := (hr.drop c 4 1 (by rw [u8v_length]; omega)).take m
    rwa [Nat.mul_one, u8v_drop, u8v_take] at this
  have HF := Lib.hid hfb
  clear hfb
  generalize b.drop (8 + m) = r at *
  generalize (b.drop 4).take m = x at *
  generalize numB (b.drop (4 + m)) = p1 at *
  generalize ofN [b.take (4 + m)] = p2 at *
  have hwrap := rwrap_any (subA A c 4 1) m (c - 4) x hx w hrx hn
  have hwl := wrapB_length x
  rw [hx] at hwl
  have HX := Lib.hid hx
  clear hx
  go_enter Try.func21, Try.ntmps21
  go_wp2_with fail
  refine hnum.mono ?_
  rintro e w1 ⟨rfl, rfl⟩
  go_wp2_with fail
  refine hwrap.mono ?_
  rintro e w2 ⟨⟨v2, rfl, ho2⟩, hb2⟩
  obtain ⟨A2, c2, rfl, hc2, hm2, hrr2, hB2⟩ := RdC.of_own ho2
  have hr2 := hr.below hb2
  have hrx2 := hrx.below hb2
  have k1 : ∀ n, (convert 22 9 (.slice A2 (m + 8) c2)).run Try.prog (w2.drewN n) = .ok (.string (bstr (wrapB x))) (w2.drewN n) := fun n => by
    have := run_string_of (P := Try.prog) (w2.drewN n) 22 9 5 Try.underlying22 Try.underlying5 Try.underlying9 A2 (wrapB x) c2 (hrr2.drewN n)
    rwa [hwl] at this
  have k2 : ∀ n, (convert 22 9 (.slice A (m + 8) c)).run Try.prog (w2.drewN n) = .ok (.string (bstr (b.take (m + 8)))) (w2.drewN n) := fun n => by
    have := run_string_of (P := Try.prog) (w2.drewN n) 22 9 5 Try.underlying22 Try.underlying5 Try.underlying9 A (b.take (m + 8)) c (by rw [← u8v_take]; exact (hr2.take _).drewN n)
    rwa [List.length_take, Nat.min_eq_left (by omega)] at this
  have hw8 : IntKind.i64.wrap ((m : Int) + 8) = (m : Int) + 8 := IntWalk.i64_in _ (by omega)
  have hwl' := Lib.hid hwl
  clear hwl hrr2 hr2 hr hrx hwrap hnum
  generalize b.take (m + 8) = y at *
  generalize wrapB x = z at *
  by_cases hp : p1 = p2
  · have hq : ((bstr z).toList == (bstr y).toList) = true := by rw [bstr_toList, bstr_toList, hsame.2 hp]; simp
    clear hsame
    go_wp2_with fail
    go_quiet (fail)
    have hrx3 := hrx2.drewN nq
    have hb3 := below_drewN hb2 nq
    go_wp2_with (at_builtin; refine wpList_app elt8 rfl (.tmp 40) (.tmp 44) rfl w.heap.size (.slice none 0 0) 0 [] rfl (World.ownsRow_nil _ _ _ _) (subA A c 4 1) m (c - 4) (u8v x) rfl ?_ hrx3 (u8v_one _) ?_ ?_ hb3.size ?_)
    · rw [u8v_length, HX.out]; simp
    · unfold maxLen; omega
    · omega
    intro v4 w4 ho4 hg4
    have hb4 := below_grown hb3 (World.ownsRow_nil (w2.drewN nq) w.heap.size 5 1) hg4 hb3.size (Nat.le_refl _)
    go_wp2
    go_ret3
    refine .inl ⟨x, r, v4, by rw [HF.out, if_neg (by simpa using hp)], hxr.out, by rw [HX.out]; rfl, ?_, hb4⟩
    rw [HX.out]
    simpa using ho4
  · have hq : ((bstr z).toList == (bstr y).toList) = false := by
      rw [bstr_toList, bstr_toList]
      have := fun h => hp (hsame.1 h)
      simpa using this
    clear hsame
    go_wp2_with fail
    go_quiet (fail)
    go_wp2_with fail
    go_ret3
    exact .inr ⟨by rw [HF.out, if_pos hp], rfl, below_drewN hb2 _⟩
theorem rfirst_any (A : Option Addr) (n c : Nat) (b : List UInt8) (hn0 : b.length = n) (w : World) (hr : RdC w A (u8v b)) (hl2 : n ≤ 140737488355328) (hc : n ≤ c) :
    Calls Try.prog 21 #[.slice A n c] w (RFirstEnd w b) := by
  subst hn0
  by_cases h1 : b.length < 8
  · exact (rfirst_short A c b w h1).mono fun e w' ⟨he, hw⟩ => .inr ⟨by simp [firstB, h1], he, by subst hw; exact Below.refl _ _⟩
  by_cases h2 : 4194304 < numB b ∨ b.length < 8 + numB b
  · refine (rfirst_great A c b w hr (by omega) hl2 h2).mono fun e w' ⟨he, hw⟩ => .inr ⟨?_, he, by subst hw; exact Below.refl _ _⟩
    unfold firstB
    by_cases h3 : 4194304 < numB b
    · rw [if_pos (.inr h3)]
    · rw [if_neg (by omega), if_pos (by omega)]
  exact rfirst_go A c b w hr (by omega) hl2 hc (by omega) (by omega)
def RUnwrapEnd (w : World) (b : List UInt8) (e : Ending) (w' : World) : Prop :=
  (∃ x v, unwrapB b = some x ∧ e = .returned (.tuple #[v, .int .i64 0]) ∧ w'.ownsRow w.heap.size 5 1 v x.length (u8v x) ∧ Below w.heap.size w w') ∨
  (unwrapB b = none ∧ e = .returned (.tuple #[.slice none 0 0, .int .i64 20]) ∧ Below w.heap.size w w')
set_option maxHeartbeats 1000000 in
theorem runwrap_any (A : Option Addr) (n c : Nat) (b : List UInt8) (hn0 : b.length = n) (w : World) (hr : RdC w A (u8v b)) (hl2 : n ≤ 140737488355328) (hc : n ≤ c) :
    Calls Try.prog 20 #[.slice A n c] w (RUnwrapEnd w b) := by
  go_enter Try.func20, Try.ntmps20
  go_wp2_with fail
  refine (rfirst_any A n c b hn0 w hr hl2 hc).mono ?_
  rintro e w1 (⟨x, r, v, hf, hlen, rfl, f1, hb⟩ | ⟨hf, rfl, hb⟩)
  · have hf' := Lib.hid hf
    clear hf
    cases r with
    | nil =>
      have hd : (((x.length + 8 : Nat) : Int) != (n : Int)) = false := by simp at hlen ⊢; omega
      have HL := Lib.hid hlen
      have HN := Lib.hid hn0
      clear hlen hn0
      go_wp2_with fail
      go_ret2
      exact .inl ⟨x, v, by simp [unwrapB, hf'.out], rfl, f1, hb⟩
    | cons y r =>
      have hd : (((x.length + 8 : Nat) : Int) != (n : Int)) = true := by simp at hlen ⊢; omega
      have HL := Lib.hid hlen
      have HN := Lib.hid hn0
      clear hlen hn0
      go_wp2_with fail
      go_ret2
      exact .inr ⟨by simp [unwrapB, hf'.out], rfl, hb⟩
  · have hf' := Lib.hid hf
    clear hf
    go_wp2_with fail
    go_ret2
    exact .inr ⟨by simp [unwrapB, hf'.out], rfl, hb⟩
end Go.Proofs.Ytnpdbnphoifjlaa
