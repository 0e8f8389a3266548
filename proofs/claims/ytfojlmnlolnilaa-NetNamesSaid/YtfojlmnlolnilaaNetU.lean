/- net's law: lists of frames; Same. -/
import Derived.Test.YtfojlmnlolnilaaNetT
import Derived.Test.YtfojlmnlolnilaaNetSp
namespace Go.Proofs.Ytfojlmnlolnilaa
open Go.RowKit
attribute [local go_sem] Oper.semAt_some

def Fl.c3 (x : Fl) : List Value := [.int .i64 x.f, .int .i64 x.t, .slice x.A x.n x.c]
def apC (L : List Fl) : List Value := (L.map Fl.c3).flatten
theorem apC_length (L : List Fl) : (apC L).length = L.length * 3 := by
  induction L with
  | nil => rfl
  | cons x L ih => simp only [apC, List.map_cons, List.flatten_cons, List.length_append, List.length_cons] at ih ⊢; rw [ih]; simp [Fl.c3]; omega
theorem apC_append (L M : List Fl) : apC (L ++ M) = apC L ++ apC M := by simp [apC]
theorem apC_one (fl : List Fl) : ∀ u ∈ apC fl, u.oneCell' = true := by
  intro u hu
  obtain ⟨l, hl, hu⟩ := List.mem_flatten.1 hu
  obtain ⟨y, _, rfl⟩ := List.mem_map.1 hl
  simp only [Fl.c3, List.mem_cons, List.not_mem_nil, or_false] at hu
  rcases hu with rfl | rfl | rfl <;> rfl
theorem apC_get (fl : List Fl) (i : Nat) (hi : i < fl.length) (r : Nat) (hr : r < 3) : (apC fl)[i * 3 + r]? = (fl[i]).c3[r]? := by
  induction fl generalizing i with
  | nil => cases hi
  | cons x L ih =>
    have hx : x.c3.length = 3 := rfl
    have e : apC (x :: L) = x.c3 ++ apC L := by simp [apC]
    rw [e]
    cases i with
    | zero =>
      rw [List.getElem?_append_left (by omega)]
      simp
    | succ i =>
      rw [List.getElem?_append_right (by omega), show (i + 1) * 3 + r - x.c3.length = i * 3 + r by omega]
      simpa using ih i (by simpa using hi)
theorem apC_take (fl : List Fl) (i : Nat) : apC (fl.take i) = (apC fl).take (i * 3) := by
  induction fl generalizing i with
  | nil => simp [apC]
  | cons y L ih =>
    have hc : apC (y :: L) = y.c3 ++ apC L := by simp [apC]
    have hl : y.c3.length = 3 := rfl
    cases i with
    | zero => simp [apC]
    | succ i =>
      have hc2 : apC (y :: L.take i) = y.c3 ++ apC (L.take i) := by simp [apC]
      rw [List.take_succ_cons, hc2, hc, ih, List.take_append, hl, List.take_of_length_le (show y.c3.length ≤ (i + 1) * 3 by omega), show (i + 1) * 3 - 3 = i * 3 by omega]
theorem apC_drop (fl : List Fl) (i : Nat) : apC (fl.drop i) = (apC fl).drop (i * 3) := by
  induction fl generalizing i with
  | nil => simp [apC]
  | cons y L ih =>
    have hc : apC (y :: L) = y.c3 ++ apC L := by simp [apC]
    have hl : y.c3.length = 3 := rfl
    cases i with
    | zero => simp
    | succ i => rw [List.drop_succ_cons, hc, ih, List.drop_append, hl, List.drop_of_length_le (show y.c3.length ≤ (i + 1) * 3 by omega), List.nil_append, show (i + 1) * 3 - 3 = i * 3 by omega]
def Fl.rd (W : World) (y : Fl) : Prop := y.l.length = y.n ∧ RdC W y.A (u8v y.l)
def Fl.key (y : Fl) : Int × Int × List UInt8 := (y.f, y.t, y.l)
theorem Fl.rd.below {W W' : World} {y : Fl} (h : y.rd W) (hb : Below W.heap.size W W') : y.rd W' := ⟨h.1, h.2.below hb⟩
/-- A list of frames, as it lies. -/
def ApRow (W : World) (A : Option Addr) (n : Nat) (L : List Fl) : Prop := L.length = n ∧ RdC W A (apC L) ∧ ∀ y ∈ L, y.rd W
theorem ApRow.below {W W' : World} {A : Option Addr} {n : Nat} {L : List Fl} (h : ApRow W A n L) (hb : Below W.heap.size W W') : ApRow W' A n L := ⟨h.1, h.2.1.below hb, fun y hy => (h.2.2 y hy).below hb⟩
theorem ApRow.cell {W : World} {A : Option Addr} {n : Nat} {L : List Fl} (h : ApRow W A n L) (k : Nat) (hk : k < L.length) :
    ∃ ad, A = some ad ∧ W.cell? (ad.add (k * 3)) = some (.int .i64 (L[k]).f) ∧ W.cell? ⟨(ad.add (k * 3)).block, (ad.add (k * 3)).off + 1, none⟩ = some (.int .i64 (L[k]).t) ∧ W.cell? ⟨(ad.add (k * 3)).block, (ad.add (k * 3)).off + 2, none⟩ = some (.slice (L[k]).A (L[k]).n (L[k]).c) := by
  obtain ⟨ad, rfl, c0⟩ := h.2.1 (k * 3 + 0) _ (apC_get L k hk 0 (by omega))
  refine ⟨ad, rfl, c0, ?_, ?_⟩
  · obtain ⟨_, e, c1⟩ := h.2.1 (k * 3 + 1) _ (apC_get L k hk 1 (by omega))
    cases e
    rw [← add_at _ 0, Go.Deep.add_add]; exact c1
  · obtain ⟨_, e, c1⟩ := h.2.1 (k * 3 + 2) _ (apC_get L k hk 2 (by omega))
    cases e
    rw [← add_at _ 1, Go.Deep.add_add]; exact c1
set_option maxRecDepth 100000 in
set_option maxHeartbeats 8000000 in
theorem same_any (A : Option Addr) (n c : Nat) (L : List Fl) (A' : Option Addr) (n' c' : Nat) (M : List Fl) (w : World) (h : ApRow w A n L) (h' : ApRow w A' n' M) (hn : n ≤ 1000000) (hn' : n' ≤ 1000000) :
    Calls Try.prog 19 #[.slice A n c, .slice A' n' c'] w fun e w' => e = .returned (.bool (decide (L.map Fl.key = M.map Fl.key))) ∧ Below w.heap.size w w' := by
  have hl := h.1
  have hl' := h'.1
  by_cases hnn : n = n'
  · subst hnn
    have hne : ((n : Int) != (n : Int)) = false := by simp
    obtain ⟨r, hr⟩ : ∃ r, r = decide (L.map Fl.key = M.map Fl.key) := ⟨_, rfl⟩
    rw [← hr]
    go_enter Try.func19, Try.ntmps19
    go_wp2
    go_loopw [5] (fun i wr => ∃ k : Nat, k ≤ n ∧ i = .int .i64 (k : Int) ∧ (L.take k).map Fl.key = (M.take k).map Fl.key ∧ Below w.heap.size w wr) (fun i _ => n - (intOf i).toNat)
    case atStart => exact ⟨0, by omega, rfl, by simp, Below.refl _ _⟩
    case round =>
      obtain ⟨k, hk, rfl, hpre, hbr⟩ := hrel
      by_cases hlt : k < n
      · obtain ⟨ad, rfl, q0, q1, q2⟩ := (h.below hbr).cell k (by omega)
        obtain ⟨ad', rfl, p0, p1, p2⟩ := (h'.below hbr).cell k (by omega)
        have hy := ((h.below hbr).2.2 (L[k]) (List.getElem_mem (by omega)))
        have hy' := ((h'.below hbr).2.2 (M[k]) (List.getElem_mem (by omega)))
        have hstep : (L[k]).key = (M[k]).key → (L.take (k + 1)).map Fl.key = (M.take (k + 1)).map Fl.key := fun e => by
          rw [List.take_succ_eq_append_getElem (by omega), List.take_succ_eq_append_getElem (by omega), List.map_append, List.map_append, hpre]
          simp [e]
        have hstop : (L[k]).key ≠ (M[k]).key → r = false := fun e => by
          rw [hr]
          refine decide_eq_false fun e2 => e ?_
          have := congrArg (fun l : List (Int × Int × List UInt8) => l[k]?) e2
          simp only [List.getElem?_map, List.getElem?_eq_getElem (show k < L.length by omega), List.getElem?_eq_getElem (show k < M.length by omega), Option.map_some, Option.some.injEq] at this
          exact this
        clear hpre hr
        generalize L[k] = y at *
        generalize M[k] = z at *
        generalize hp : ad.add (k * 3) = p at *
        generalize hp' : ad'.add (k * 3) = p' at *
        obtain ⟨yf, yt, yA, yn, yc, yl, yb⟩ := y
        obtain ⟨zf, zt, zA, zn, zc, zl, zb⟩ := z
        have s1 : ∀ j, (convert 22 9 (.slice yA yn yc)).run Try.prog (wr.drewN j) = .ok (.string (bstr yl)) (wr.drewN j) := fun j => str_rd (hy.2.drewN j) hy.1
        have s2 : ∀ j, (convert 22 9 (.slice zA zn zc)).run Try.prog (wr.drewN j) = .ok (.string (bstr zl)) (wr.drewN j) := fun j => str_rd (hy'.2.drewN j) hy'.1
        have hki : (k : Int) < (n : Int) := by omega
        have hwk : IntKind.i64.wrap ((k : Int) + 1) = (k : Int) + 1 := IntWalk.i64_in _ (by omega)
        simp only [Fl.key] at hstep hstop q0 q1 q2 p0 p1 p2
        clear hy hy'
        by_cases h1 : yf = zf
        · subst h1
          have t1 : (yf != yf) = false := by simp
          by_cases h2 : yt = zt
          · subst h2
            have t2 : (yt != yt) = false := by simp
            by_cases h3 : yl = zl
            · subst h3
              have t3 : ((bstr yl).toList == (bstr yl).toList) = true := by simp
              have hst := hstep rfl
              have HS := Lib.hid hst
              clear hst hstep hstop
              go_wp2_with fail
              go_quiet (fail)
              go_wp2_with fail
              exact ⟨⟨k + 1, by omega, by rfl, HS.out, below_then hbr (below_drewN _ _) (Nat.le_refl _)⟩, by simp [intOf]; omega⟩
            · have t3 : ((bstr yl).toList == (bstr zl).toList) = false := by rw [beq_eq_false_iff_ne, bstr_toList, bstr_toList]; exact h3
              obtain rfl := hstop (fun e => h3 (by cases e; rfl))
              clear hstep hstop h3
              go_wp2_with fail
              go_quiet (fail)
              go_wp2_with fail
              go_ret
              exact ⟨rfl, below_then hbr (below_drewN _ _) (Nat.le_refl _)⟩
          · have t2 : (yt != zt) = true := by rw [bne_iff_ne]; exact h2
            obtain rfl := hstop (fun e => h2 (by cases e; rfl))
            clear hstep hstop h2 s1 s2
            go_wp2_with fail
            go_quiet (fail)
            go_wp2_with fail
            go_ret
            exact ⟨rfl, below_then hbr (below_drewN _ _) (Nat.le_refl _)⟩
        · have t1 : (yf != zf) = true := by rw [bne_iff_ne]; exact h1
          obtain rfl := hstop (fun e => h1 (by cases e; rfl))
          clear hstep hstop h1 s1 s2
          go_wp2_with fail
          go_quiet (fail)
          go_wp2_with fail
          go_ret
          exact ⟨rfl, below_then hbr (below_drewN _ _) (Nat.le_refl _)⟩
      · obtain rfl : k = n := by omega
        obtain rfl : r = true := by
          rw [hr]
          rw [List.take_of_length_le (by omega), List.take_of_length_le (by omega)] at hpre
          exact decide_eq_true hpre
        clear hr hpre
        have hki : ¬ (k : Int) < (k : Int) := by omega
        go_wp2
        go_ret
        exact ⟨rfl, hbr⟩
  · have hne : ((n : Int) != (n' : Int)) = true := by rw [bne_iff_ne]; omega
    have hf : decide (L.map Fl.key = M.map Fl.key) = false := decide_eq_false fun e => hnn (by
      have := congrArg List.length e
      simp only [List.length_map] at this
      omega)
    rw [hf]
    clear hf hnn
    go_enter Try.func19, Try.ntmps19
    go_wp2
    go_ret
    exact ⟨rfl, Below.refl _ _⟩
end Go.Proofs.Ytfojlmnlolnilaa
