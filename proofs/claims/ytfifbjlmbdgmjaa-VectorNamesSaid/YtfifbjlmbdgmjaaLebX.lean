/- leb: a Source's Number. -/
import Derived.Test.YtfifbjlmbdgmjaaLebV
namespace Go.Proofs.Ytfifbjlmbdgmjaa
open Go.RowKit Go.Shelf
attribute [local go_sem] Oper.semAt_some

theorem boxed_putObj {W : World} {B k : Nat} {t : TypeId} {v : Value} {o : Obj} (h : Boxed W B t v) (hk : W.heap[k]? = some o) (ho : o.isCells = false) (o' : Obj) : Boxed (W.putObj k o') B t v := by
  have hne : B ≠ k := fun e => by
    subst e
    have h1 : W.heap[B]? = _ := h
    rw [h1] at hk
    cases hk
    cases ho
  exact (World.putObj_heap_other hne).trans h
theorem RdC.putObj {W : World} {k : Nat} {A : Option Addr} {cs : List Value} {o : Obj} (h : RdC W A cs) (hk : W.heap[k]? = some o) (ho : o.isCells = false) (o' : Obj) : RdC (W.putObj k o') A cs := fun j u hj => by
  obtain ⟨ad, e, hc⟩ := h j u hj
  refine ⟨ad, e, ?_⟩
  have hne : (ad.add j).block ≠ k := fun e => by
    unfold World.cell? at hc
    rw [e, hk] at hc
    cases o <;> simp_all [Obj.isCells]
  exact (World.cell?_of_block (w := W) (World.putObj_heap_other hne)).trans hc
theorem Src.putObj {t : TypeId} {g k : Nat} {v : Value} {l : List UInt8} {W : World} {o : Obj} (h : Src t g v l W) (hk : W.heap[k]? = some o) (ho : o.isCells = false) (o' : Obj) : Src t g v l (W.putObj k o') := by
  obtain ⟨h1, A, c, rfl, h2, h3, h4, h5⟩ := h
  exact ⟨boxed_putObj (v := Value.slice A l.length c) h1 hk ho o', A, c, rfl, h2, h3, h4.putObj hk ho o', h5⟩
theorem Kept.putObj {ex : Nat → Prop} {w W : World} {k : Nat} (h : Kept ex w W) (hk : w.heap.size ≤ k) (o' : Obj) : Kept ex w (W.putObj k o') :=
  ⟨h.os, h.tape, h.output, by rw [World.putObj_size]; exact h.size, fun j hj he => by rw [World.putObj_heap_other (by omega)]; exact h.block j hj he⟩
theorem Kept.setNew {ex : Nat → Prop} {w W : World} {k : Nat} (h : Kept ex w W) (hk : w.heap.size ≤ k) (v : Value) : Kept ex w (W.setCell ⟨k, 0, none⟩ v) :=
  ⟨h.os, h.tape, h.output, by simpa using h.size, fun j hj he => by rw [heap_setCell_other _ _ _ _ (show j ≠ k by omega)]; exact h.block j hj he⟩
theorem Kept.drew {ex : Nat → Prop} {w W : World} (h : Kept ex w W) : Kept ex w W.drew := ⟨h.os, h.tape, h.output, h.size, h.block⟩
theorem boxed_at (W : World) {k : Nat} (t : TypeId) (v : Value) (hk : W.heap.size = k) : Boxed (W.alloc (.cells #[v] t)) k t v := by
  subst hk
  exact Boxed.new W t v
theorem boxed_below {W W' : World} {B : Nat} {t : TypeId} {v : Value} (h : Boxed W B t v) (hb : Below W.heap.size W W') : Boxed W' B t v := (hb.block B h.lt).trans h
theorem boxed_next {W : World} {B g : Nat} {t : TypeId} {v : Value} (h : Boxed W B t v) (hne : B ≠ g) (u : Value) : Boxed (W.setCell ⟨g, 0, none⟩ u).drew B t v := h.other hne u
/-- What lies while a number is read. -/
structure NumI (g : Nat) (A : Option Addr) (n c : Nat) (w : World) (acc many : Nat) (wh : Bool) (e : Int) (W : World) : Prop where
  b0 : Boxed W w.heap.size 31 (.int .u64 (acc : Int))
  b1 : Boxed W (w.heap.size + 1) 36 (.int .i64 e)
  b2 : Boxed W (w.heap.size + 2) 51 (.pointer (some ⟨g, 0, none⟩))
  b3 : Boxed W (w.heap.size + 3) 79 (.pointer (some ⟨w.heap.size + 1, 0, none⟩))
  b4 : Boxed W (w.heap.size + 4) 33 (.slice A n c)
  b5 : Boxed W (w.heap.size + 5) 3 (.int .i64 (many : Int))
  b6 : Boxed W (w.heap.size + 6) 4 (.bool wh)
  kp : Kept (fun k => k = g) w W
theorem NumI.putObj {g : Nat} {A : Option Addr} {n c acc many : Nat} {wh : Bool} {e : Int} {w W : World} {k : Nat} {o : Obj} (h : NumI g A n c w acc many wh e W) (hk : w.heap.size ≤ k) (ho : W.heap[k]? = some o) (hc : o.isCells = false) (o' : Obj) : NumI g A n c w acc many wh e (W.putObj k o') :=
  ⟨boxed_putObj h.b0 ho hc o', boxed_putObj h.b1 ho hc o', boxed_putObj h.b2 ho hc o', boxed_putObj h.b3 ho hc o', boxed_putObj h.b4 ho hc o', boxed_putObj h.b5 ho hc o', boxed_putObj h.b6 ho hc o', h.kp.putObj hk o'⟩
theorem NumI.next {g : Nat} {A : Option Addr} {n c acc many : Nat} {wh : Bool} {e : Int} {w W W' : World} (hg : g < w.heap.size) (h : NumI g A n c w acc many wh e W) (hn : NextCh g W W') : NumI g A n c w acc many wh e W' := by
  obtain ⟨v, rfl⟩ := hn
  exact ⟨boxed_next h.b0 (by omega) v, boxed_next h.b1 (by omega) v, boxed_next h.b2 (by omega) v, boxed_next h.b3 (by omega) v, boxed_next h.b4 (by omega) v, boxed_next h.b5 (by omega) v, boxed_next h.b6 (by omega) v,
    ⟨h.kp.os, h.kp.tape, h.kp.output, by simpa using h.kp.size, fun j hj he => (heap_setCell_other _ _ _ _ he).trans (h.kp.block j hj he)⟩⟩
theorem RdC.setBox {W : World} {A : Option Addr} {l : List UInt8} (h : RdC W A (u8v l)) {B : Nat} {t : TypeId} {v : Value} (hb : Boxed W B t v) (hv : ∀ x, v ≠ .int .u8 x) (u : Value) : RdC (W.setCell ⟨B, 0, none⟩ u) A (u8v l) := fun j u' hj => by
  obtain ⟨ad, e, hc⟩ := h j u' hj
  refine ⟨ad, e, ?_⟩
  by_cases e2 : (⟨B, 0, none⟩ : Addr) = ad.add j
  case neg =>
    rw [World.cell?_setCell_other (h := e2)]
    exact hc
  case pos =>
    rw [← e2, hb.cell] at hc
    simp only [u8v, List.getElem?_map, Option.map_eq_some_iff] at hj
    obtain ⟨b, _, rfl⟩ := hj
    exact (hv _ (Option.some.inj hc)).elim
theorem Src.setBox {t : TypeId} {g : Nat} {v : Value} {l : List UInt8} {W : World} (h : Src t g v l W) {B : Nat} {t' : TypeId} {v' : Value} (hb : Boxed W B t' v') (hv : ∀ x, v' ≠ .int .u8 x) (hg : g ≠ B) (u : Value) : Src t g v l (W.setCell ⟨B, 0, none⟩ u) := by
  obtain ⟨h1, A, c, rfl, h2, h3, h4, h5⟩ := h
  exact ⟨Boxed.other (v := Value.slice A l.length c) h1 hg u, A, c, rfl, h2, h3, h4.setBox hb hv u, h5⟩
theorem NextSt.setBox {b g : Nat} {ob : Option Nat} {l : List UInt8} {k : Nat} {W : World} (h : NextSt b g ob l k W) {B : Nat} {t' : TypeId} {v' : Value} (hb : Boxed W B t' v') (hv : ∀ x, v' ≠ .int .u8 x) (hg : g ≠ B) (hbB : b ≠ B) (u : Value) : NextSt b g ob l k (W.setCell ⟨B, 0, none⟩ u) := by
  obtain ⟨h1, h2, v, ho, h3⟩ := h
  exact ⟨h1.other hbB u, h2, v, ho, h3.setBox hb hv hg u⟩
section
variable {g : Nat} {A : Option Addr} {n c acc many : Nat} {wh : Bool} {e : Int} {w W : World}
theorem NumI.step (h : NumI g A n c w acc many wh e W) (acc' : Nat) (wh' : Bool) : NumI g A n c w acc' (many + 1) wh' e ((((W.setCell ⟨w.heap.size + 6, 0, none⟩ (.bool wh')).setCell ⟨w.heap.size, 0, none⟩ (.int .u64 (acc' : Int))).setCell ⟨w.heap.size + 5, 0, none⟩ (.int .i64 ((many : Int) + 1))).drew) := by
  refine ⟨?_, ?_, ?_, ?_, ?_, ?_, ?_, (((h.kp.setNew (by omega) _).setNew (by omega) _).setNew (by omega) _).drew⟩
  · exact boxed_next (Boxed.set _ (h.b0.other (by omega) _)) (by omega) _
  · exact boxed_next ((h.b1.other (by omega) _).other (by omega) _) (by omega) _
  · exact boxed_next ((h.b2.other (by omega) _).other (by omega) _) (by omega) _
  · exact boxed_next ((h.b3.other (by omega) _).other (by omega) _) (by omega) _
  · exact boxed_next ((h.b4.other (by omega) _).other (by omega) _) (by omega) _
  · exact Boxed.set _ ((h.b5.other (by omega) _).other (by omega) _)
  · exact boxed_next ((h.b6.set _).other (by omega) _) (by omega) _
theorem NumI.form (h : NumI g A n c w acc many wh e W) (wh' : Bool) : NumI g A n c w 0 many wh' 11 (((W.setCell ⟨w.heap.size + 6, 0, none⟩ (.bool wh')).setCell ⟨w.heap.size, 0, none⟩ (.int .u64 0)).setCell ⟨w.heap.size + 1, 0, none⟩ (.int .i64 11)) := by
  refine ⟨?_, ?_, ?_, ?_, ?_, ?_, ?_, (((h.kp.setNew (by omega) _).setNew (by omega) _).setNew (by omega) _)⟩
  · exact (Boxed.set _ (h.b0.other (by omega) _)).other (by omega) _
  · exact Boxed.set _ ((h.b1.other (by omega) _).other (by omega) _)
  · exact ((h.b2.other (by omega) _).other (by omega) _).other (by omega) _
  · exact ((h.b3.other (by omega) _).other (by omega) _).other (by omega) _
  · exact ((h.b4.other (by omega) _).other (by omega) _).other (by omega) _
  · exact ((h.b5.other (by omega) _).other (by omega) _).other (by omega) _
  · exact ((h.b6.set _).other (by omega) _).other (by omega) _
theorem NumI.ends (h : NumI g A n c w acc many wh e W) (acc' : Nat) (e' : Int) : NumI g A n c w acc' many wh e' ((W.setCell ⟨w.heap.size, 0, none⟩ (.int .u64 (acc' : Int))).setCell ⟨w.heap.size + 1, 0, none⟩ (.int .i64 e')) := by
  refine ⟨?_, ?_, ?_, ?_, ?_, ?_, ?_, ((h.kp.setNew (by omega) _).setNew (by omega) _)⟩
  · exact (Boxed.set _ h.b0).other (by omega) _
  · exact Boxed.set _ (h.b1.other (by omega) _)
  · exact (h.b2.other (by omega) _).other (by omega) _
  · exact (h.b3.other (by omega) _).other (by omega) _
  · exact (h.b4.other (by omega) _).other (by omega) _
  · exact (h.b5.other (by omega) _).other (by omega) _
  · exact (h.b6.other (by omega) _).other (by omega) _
theorem NumI.stepSt (h : NumI g A n c w acc many wh e W) (hg : g < w.heap.size) {ob : Option Nat} {l : List UInt8} {k : Nat} (hst : NextSt (w.heap.size + 7) g ob l k W) (acc' : Nat) (wh' : Bool) : NextSt (w.heap.size + 7) g ob l k ((((W.setCell ⟨w.heap.size + 6, 0, none⟩ (.bool wh')).setCell ⟨w.heap.size, 0, none⟩ (.int .u64 (acc' : Int))).setCell ⟨w.heap.size + 5, 0, none⟩ (.int .i64 ((many : Int) + 1))).drew) := by
  have h1 := hst.setBox h.b6 (fun x e => by cases e) (by omega) (by omega) (.bool wh')
  have h2 := h1.setBox (h.b0.other (by omega) _) (fun x e => by cases e) (by omega) (by omega) (.int .u64 (acc' : Int))
  exact h2.setBox ((h.b5.other (by omega) _).other (by omega) _) (fun x e => by cases e) (by omega) (by omega) (.int .i64 ((many : Int) + 1))
end
theorem or_step (acc low k : Nat) (ha : acc < 128 ^ k) (hl : low < 128) (hk : k < 9 ∨ (k = 9 ∧ low ≤ 1)) :
    low * 128 ^ k < 18446744073709551616 ∧ IntKind.u64.wrap ((low : Int) * 2 ^ (7 * k)) = ((low * 128 ^ k : Nat) : Int) ∧ bits .or .u64 (acc : Int) ((low * 128 ^ k : Nat) : Int) = ((acc + low * 128 ^ k : Nat) : Int) ∧ acc + low * 128 ^ k < 18446744073709551616 ∧ acc + low * 128 ^ k < 128 ^ (k + 1) := by
  have hp : (2 : Nat) ^ (7 * k) = 128 ^ k := by rw [Nat.pow_mul]
  have h1 : acc + low * 128 ^ k < 18446744073709551616 := by
    rcases hk with h | ⟨rfl, h⟩
    · have h1 : low * 128 ^ k ≤ 127 * 128 ^ k := Nat.mul_le_mul_right _ (by omega)
      have h2 : 128 ^ k ≤ 128 ^ 8 := Nat.pow_le_pow_right (by omega) (by omega)
      omega
    · have h2 : low * 128 ^ 9 ≤ 1 * 128 ^ 9 := Nat.mul_le_mul_right _ h
      omega
  have h2 : acc + low * 128 ^ k < 128 ^ (k + 1) := by
    have h1 : low * 128 ^ k ≤ 127 * 128 ^ k := Nat.mul_le_mul_right _ (by omega)
    rw [Nat.pow_succ]
    omega
  refine ⟨by omega, ?_, ?_, h1, h2⟩
  · have e : ((low : Int) * 2 ^ (7 * k)) = ((low * 128 ^ k : Nat) : Int) := by
      rw [← hp]
      simp
    rw [e]
    have : low * 128 ^ k < 18446744073709551616 := by omega
    generalize low * 128 ^ k = m at *
    simp only [IntKind.wrap_u64]
    omega
  · rw [u64_or_nat _ _ (by omega) (by omega)]
    congr 1
    have := Nat.two_pow_add_eq_or_of_lt (i := 7 * k) (b := acc) (by rw [hp]; exact ha) low
    rw [hp, Nat.mul_comm] at this
    rw [Nat.or_comm, ← this, Nat.add_comm]
def srcA (g most S : Nat) (x : UInt8) : Act := { tmps := #[.pointer (some ⟨g, 0, none⟩), .int .u64 (most : Int), undef, undef, .pointer (some ⟨S, 0, none⟩), .pointer (some ⟨S + 1, 0, none⟩), .pointer (some ⟨S + 5, 0, none⟩), .pointer (some ⟨S + 6, 0, none⟩), .int .u8 (x.toNat : Int), undef, .pointer (some ⟨g, 0, none⟩), .bool false, .pointer (some ⟨g, 0, none⟩), .func (.func 50) #[] #[.pointer (some ⟨S + 3, 0, none⟩), .pointer (some ⟨S + 4, 0, none⟩), .pointer (some ⟨S + 2, 0, none⟩)], .pointer (some ⟨g, 0, none⟩), .func (.func 51) #[] #[.pointer (some ⟨S + 7, 0, none⟩)], .int .u8 (x.toNat : Int), undef, undef, undef, undef, undef, undef, undef, undef, undef, undef, undef, undef, undef, undef, undef, undef, undef, undef, undef, undef, undef, undef, undef, undef, undef, undef, undef, undef, undef, undef, undef, undef, undef, undef, undef, undef, undef, undef, undef, undef, undef, undef, undef], defers := [] }
/-- Between two rounds. -/
def NumRun (g : Nat) (A : Option Addr) (c : Nat) (l : List UInt8) (w : World) (pre : List UInt8) (W : World) : Prop :=
  ∃ acc, NumI g A l.length c w acc pre.length false 0 W ∧ pre.length ≤ 9 ∧ acc < 128 ^ pre.length ∧ scanB l 0 0 = scanB (l.drop pre.length) pre.length acc
/-- The loop left. -/
def NumOut (g : Nat) (A : Option Addr) (c : Nat) (l : List UInt8) (w : World) (cd : Code) (pre : List UInt8) (W : World) : Prop :=
  (cd = .ret ∧ ∃ many wh n k, NumI g A l.length c w 0 many wh 11 W ∧ scanB l 0 0 = (n, 11, k) ∧ ∃ v, Boxed W g 67 v) ∨
  (cd = .exit 0 ∧ ∃ acc, NumI g A l.length c w acc pre.length true 0 W ∧ scanB l 0 0 = (acc, 0, pre.length) ∧ acc < 18446744073709551616 ∧ NextSt (w.heap.size + 7) g (A.map (·.block)) l pre.length W)
theorem num_leaves {g : Nat} {A : Option Addr} {c acc many : Nat} {wh : Bool} {e : Int} {w W : World} {l l' : List UInt8} {D : Nat} (tmps : Array Value) (hS : Src 67 g (.slice A l.length c) l w) (hN : NumI g A l.length c w acc many wh e W)
    (hv : ∃ v, Boxed W g 67 v) (hD : W.heap[D]? = some (.deferred (some []))) (hDS : w.heap.size ≤ D) (h4 : tmps[4]? = some (.pointer (some ⟨w.heap.size, 0, none⟩))) (h5 : tmps[5]? = some (.pointer (some ⟨w.heap.size + 1, 0, none⟩)))
    (hout : (e = 0 ∧ ∃ v', v'.ownBlock = A.map (·.block) ∧ Src 67 g v' l' W) ∨ (e ≠ 0 ∧ l' = l)) :
    LeavesInM Fence.wide 5 Try.prog Try.f41 tmps (fun e' w' => e' = .returned (.tuple #[.int .u64 (acc : Int), .int .i64 e]) ∧ ∃ v', v'.ownBlock = (Value.slice A l.length c).ownBlock ∧ SrcStep 67 g w v' l' w')
      [{ target := .collected D, args := #[] }, { target := .fn (.func 50) #[.pointer (some ⟨w.heap.size + 3, 0, none⟩), .pointer (some ⟨w.heap.size + 4, 0, none⟩), .pointer (some ⟨w.heap.size + 2, 0, none⟩)], args := #[] }] .returning W := by
  have hgl := lt_get hS.1
  refine ⟨by simp, .inl ⟨_, _, rfl, run_takeDeferred hD, ?_⟩⟩
  have hN2 := hN.putObj (by omega) hD rfl (.deferred none)
  obtain ⟨v, hv⟩ := hv
  have hv2 := boxed_putObj hv hD rfl (.deferred none)
  have hres : ∀ W', NumI g A l.length c w acc many wh e W' → (results Try.f41 tmps).run Try.prog W' = .ok (.tuple #[.int .u64 (acc : Int), .int .i64 e]) W' := fun W' h => by
    have c0 := h.b0.cell
    have c1 := h.b1.cell
    simp [results, Try.results41, go_sem, c0, c1, h4, h5]
  rcases hout with ⟨rfl, v', hob, hs⟩ | ⟨he, hll⟩
  · refine ⟨by simp, .inr ⟨(fun h => by cases h), _, _, _, _, rfl, (enters_of Try.func50 (by kernel_rfl) rfl _ _), (fun _ _ => trivial), ?_⟩⟩
    refine (back1_no _ _ _ _ _ _ _ hN2.b3 hN2.b1).mono ?_
    rintro e u' w' ⟨rfl, rfl, rfl⟩
    exact ⟨_, hres _ hN2, rfl, v', by rw [own_slice]; exact hob, hs.putObj hD rfl _, hN2.kp⟩
  · refine ⟨by simp, .inr ⟨(fun h => by cases h), _, _, _, _, rfl, (enters_of Try.func50 (by kernel_rfl) rfl _ _), (fun _ _ => trivial), ?_⟩⟩
    refine (back1_yes g _ _ _ _ e A l.length c _ he _ _ _ hN2.b3 hN2.b1 hN2.b4 hN2.b2 hv2).mono ?_
    rintro e u' w' ⟨rfl, rfl, rfl⟩
    have hN3 : NumI g A l.length c w acc many wh e ((W.putObj D (.deferred none)).setCell ⟨g, 0, none⟩ (.slice A l.length c)) := by
      have h := NumI.next hgl hN2 ⟨.slice A l.length c, rfl⟩
      exact ⟨h.b0, h.b1, h.b2, h.b3, h.b4, h.b5, h.b6, ⟨h.kp.os, h.kp.tape, h.kp.output, h.kp.size, h.kp.block⟩⟩
    obtain ⟨_, A', c', hv', q1, q2, q3, q4⟩ := hS
    cases hv'
    rw [hll]
    exact ⟨_, hres _ hN3, rfl, _, rfl, ⟨Boxed.set _ hv2, A, c, rfl, q1, q2, q3.kept hN3.kp q4, q4⟩, hN3.kp⟩
set_option maxRecDepth 100000 in
set_option maxHeartbeats 4000000 in
theorem srcnum_wide (g most : Nat) (hm : most < 18446744073709551616) (l : List UInt8) (v : Value) (w : World) (hS : Src 67 g v l w) :
    Calls Try.prog 41 #[.pointer (some ⟨g, 0, none⟩), .int .u64 (most : Int)] w fun e w' => e = .returned (.tuple #[.int .u64 ((readN l most).1 : Int), .int .i64 ((readN l most).2.1 : Int)]) ∧ ∃ v', v'.ownBlock = v.ownBlock ∧ SrcStep 67 g w v' (l.drop (readN l most).2.2) w' := by
  obtain ⟨hsg, A, c, rfl, hlc, hcm, hrd, hne⟩ := id hS
  have hgl := lt_get hsg
  have HSg : Hid (w.heap[g]? = some (.cells #[Value.slice A l.length c] 67 (0, 0))) := Lib.hid hsg
  clear hsg
  refine (callsIn_wide (n := 5)).1 ?_
  refine callsIn_of_wp_marks Try.func41 rfl trivial ?_ rfl
  simp only [Try.ntmps41, List.size_toArray, List.length_cons, List.length_nil, Nat.reduceAdd, Nat.reduceSub, Array.replicate_succ, Array.replicate_zero, List.push_toArray, List.append_toArray, List.nil_append, List.cons_append]
  gi_wp2_with fail
  refine wpIn_wide.2 (wp_scope_straight ((wpIn_wide (n := 5)).1 ?_))
  gi_wp2_with (first
    | (refine wpIn_label ?_)
    | (refine ⟨trivial, ?_⟩; gi_at_call 46; refine (callsIn_wide.2 (back_any g (w.heap.size + 1) A l.length c _ ((((Below.refl _ w).alloc (Nat.le_refl _) _).alloc (by simp) _).block g hgl |>.trans HSg.out))).mono ?_; rintro e w' ⟨rfl, rfl⟩)
    | (refine ⟨trivial, ?_⟩; gi_at_call 47; refine (callsIn_wide.2 (src_next_any g _)).mono ?_; rintro e w' ⟨rfl, rfl⟩)
    | fail)
  simp only [Nat.add_assoc, Nat.reduceAdd]
  obtain ⟨W0, hW0⟩ : ∃ W0, W0 = ((((((((w.alloc (.cells #[.int .u64 0] 31)).alloc (.cells #[.int .i64 0] 36)).alloc (.cells #[.pointer (some ⟨g, 0, none⟩)] 51)).alloc (.cells #[.pointer (some ⟨w.heap.size + 1, 0, none⟩)] 79)).alloc (.cells #[.slice A l.length c] 33)).alloc (.cells #[.int .i64 0] 3)).alloc (.cells #[.bool false] 4)).alloc (.cells #[.pointer (some ⟨g, 0, none⟩)] 51)) := ⟨_, rfl⟩
  have bs : W0.heap.size = w.heap.size + 8 := by rw [hW0]; simp only [World.size_alloc]
  have bb : Below w.heap.size w W0 := by rw [hW0]; exact ((((((((Below.refl _ w).alloc (Nat.le_refl _) _).alloc (by simp only [World.size_alloc]; omega) _).alloc (by simp only [World.size_alloc]; omega) _).alloc (by simp only [World.size_alloc]; omega) _).alloc (by simp only [World.size_alloc]; omega) _).alloc (by simp only [World.size_alloc]; omega) _).alloc (by simp only [World.size_alloc]; omega) _).alloc (by simp only [World.size_alloc]; omega) _
  have n0 : NumI g A l.length c w 0 0 false 0 W0 := by
    rw [hW0]
    refine ⟨?_, ?_, ?_, ?_, ?_, ?_, ?_, Kept.of_below (by rw [← hW0]; exact bb)⟩
    all_goals repeat (first | (refine boxed_at _ _ _ ?_; simp only [World.size_alloc]; done) | (refine Boxed.alloc ?_ _) | fail)
  have st0 : NextSt (w.heap.size + 7) g (A.map (·.block)) l 0 W0 := by
    refine ⟨by rw [hW0]; exact boxed_at _ _ _ (by simp only [World.size_alloc]), by omega, _, own_slice _ _ _, (hS.below bb)⟩
  rw [← hW0]
  clear hW0
  have hSS : ∀ k, k = w.heap.size + 7 → k ≠ g := fun k hk => by omega
  have hch : ∀ (a : World) (b : World), NextCh g a b → ∀ (k : Nat) (o : Obj), a.heap[k]? = some o → o.isCells = false → b.heap[k]? = some o := by
    rintro a _ ⟨v, rfl⟩ k o hk ho
    exact (KeepsOthers.setCell a _ v).same k o hk ho
  refine range_some (F := Fence.wide) (n := 5) rfl (by omega) (gf := 51) (lb := #[.pointer (some ⟨w.heap.size + 7, 0, none⟩)]) rfl trivial (enters_of Try.func51 (by kernel_rfl) rfl) enc8 (fun _ => rfl) l (NextSt (w.heap.size + 7) g (A.map (·.block)) l) (NextCh g)
    (fun r o => next_hands Fence.wide 4 trivial rfl (by omega) _ g _ l _ ?st) hch (NumRun g A c l w) (NumOut g A c l w) ?h0 ?hIc ?hIp ?hSp ?hIxp (srcA g most w.heap.size) ?assign ?body ?done ?stop
  case st =>
    have hb := ((Below.refl _ W0).alloc (Nat.le_refl _) o).alloc (show W0.heap.size ≤ (W0.alloc o).heap.size by simp) r
    exact ⟨boxed_below st0.1 hb, st0.2.1, _, own_slice _ _ _, (hS.below bb).below hb⟩
  case h0 =>
    intro o r
    have hb := ((Below.refl _ W0).alloc (Nat.le_refl _) o).alloc (show W0.heap.size ≤ (W0.alloc o).heap.size by simp) r
    exact ⟨0, ⟨boxed_below n0.b0 hb, boxed_below n0.b1 hb, boxed_below n0.b2 hb, boxed_below n0.b3 hb, boxed_below n0.b4 hb, boxed_below n0.b5 hb, boxed_below n0.b6 hb, Kept.of_below (below_then bb hb (Nat.le_refl _))⟩, by simp, by simp, rfl⟩
  case hIc =>
    rintro s X Y ⟨acc, h1, h2⟩ hn
    exact ⟨acc, h1.next hgl hn, h2⟩
  case hIp =>
    rintro s X k o o' ⟨acc, h1, h2⟩ hk ho hc
    exact ⟨acc, h1.putObj (by omega) ho hc o', h2⟩
  case hSp =>
    rintro s X k o o' ⟨h1, h2, v, hob, h3⟩ hk ho hc
    exact ⟨boxed_putObj h1 ho hc o', h2, v, hob, h3.putObj ho hc o'⟩
  case hIxp =>
    rintro cd s X k o o' (⟨rfl, many, wh, n, k', h1, h2, v, h3⟩ | ⟨rfl, acc, h1, h2, h3, h4, h5, v, hob, h6⟩) hk ho hc
    · exact .inl ⟨rfl, many, wh, n, k', h1.putObj (by omega) ho hc o', h2, v, boxed_putObj h3 ho hc o'⟩
    · exact .inr ⟨rfl, acc, h1.putObj (by omega) ho hc o', h2, h3, boxed_putObj h4 ho hc o', h5, v, hob, h6.putObj ho hc o'⟩
  case assign =>
    intro L x W K hK
    unfold enc8
    unfold srcA at hK
    gi_wp2
    exact hK
  case body =>
    intro L pre x rest W hl hI hst hlt
    obtain ⟨acc, hN, hp9, hacc, hsc⟩ := hI
    obtain ⟨b0, b1, b2, b3, b4, b5, b6, kp⟩ := id hN
    have c0 := b0.cell
    have f0 := b0.frozen
    have c1 := b1.cell
    have f1 := b1.frozen
    have c5 := b5.cell
    have f5 := b5.frozen
    have c6 := b6.cell
    have f6 := b6.frozen
    have hd : l.drop pre.length = x :: rest := by rw [hl, List.drop_left]
    rw [hd] at hsc
    generalize hk : pre.length = k at *
    have HK := Lib.hid hk
    have HSC := Lib.hid hsc
    have HL := Lib.hid hl
    clear hk hsc hl hd b0 b1 b2 b3 b4 b5 b6 hch hSS hrd hne st0 n0 hlc
    have hx := x.toNat_lt
    have hmx : Try.prog.follows .mixedOrders = true := by kernel_rfl
    by_cases hf : (k = 9 ∧ (1 < x.toNat % 128 ∨ ¬ x.toNat < 128)) ∨ (x.toNat < 128 ∧ x.toNat % 128 = 0 ∧ 0 < k)
    · have hfin : ∀ (wh' : Bool) (a : Act), leftOr (NumRun g A c l w) (NumOut g A c l w) (NextSt (w.heap.size + 7) g (A.map (·.block)) l) (pre ++ [x]) W .ret a (((W.setCell ⟨w.heap.size + 6, 0, none⟩ (.bool wh')).setCell ⟨w.heap.size, 0, none⟩ (.int .u64 0)).setCell ⟨w.heap.size + 1, 0, none⟩ (.int .i64 11)) := fun wh' a => by
        have hsc := HSC.out
        rw [scanB, if_pos hf] at hsc
        obtain ⟨_, _, v, _, hv, _⟩ := hst
        exact ⟨((KeepsOthers.setCell _ _ _).trans (KeepsOthers.setCell _ _ _)).trans (KeepsOthers.setCell _ _ _), .inl ⟨rfl, _, _, _, _, hN.form wh', hsc, v, ((Boxed.other hv (by omega) _).other (by omega) _).other (by omega) _⟩⟩
      have HF := Lib.hid hf
      clear hf
      unfold srcA
      gi_wp2
      all_goals first | (exfalso; have := HF.out; omega) | exact hfin _ _ | fail
    · obtain ⟨_, hwr, hor, hq1, hq2⟩ := or_step acc (x.toNat % 128) k hacc (by omega) (by omega)
      have hfin : ∀ (wh' : Bool) (ex : Exit) (a : Act), ((wh' = false ∧ ex = .normal ∧ ¬ x.toNat < 128) ∨ (wh' = true ∧ ex = .exit 0 ∧ x.toNat < 128)) → leftOr (NumRun g A c l w) (NumOut g A c l w) (NextSt (w.heap.size + 7) g (A.map (·.block)) l) (pre ++ [x]) W ex a ((((W.setCell ⟨w.heap.size + 6, 0, none⟩ (.bool wh')).setCell ⟨w.heap.size, 0, none⟩ (.int .u64 ((acc + x.toNat % 128 * 128 ^ k : Nat) : Int))).setCell ⟨w.heap.size + 5, 0, none⟩ (.int .i64 ((k : Int) + 1))).drew) := fun wh' ex a hex => by
        have hsc := HSC.out
        have hl := HL.out
        have hls : (pre ++ [x]).length = k + 1 := by rw [List.length_append, HK.out]; rfl
        have hd2 : l.drop (k + 1) = rest := by rw [hl, ← HK.out, ← List.drop_drop, List.drop_left]; rfl
        have hko : KeepsOthers W ((((W.setCell ⟨w.heap.size + 6, 0, none⟩ (.bool wh')).setCell ⟨w.heap.size, 0, none⟩ (.int .u64 ((acc + x.toNat % 128 * 128 ^ k : Nat) : Int))).setCell ⟨w.heap.size + 5, 0, none⟩ (.int .i64 ((k : Int) + 1))).drew) := (((KeepsOthers.setCell _ _ _).trans (KeepsOthers.setCell _ _ _)).trans (KeepsOthers.setCell _ _ _)).trans (KeepsOthers.drew _)
        rw [scanB, if_neg hf] at hsc
        have hst2 := hN.stepSt hgl hst (acc + x.toNat % 128 * 128 ^ k) wh'
        have hN2 := hN.step (acc + x.toNat % 128 * 128 ^ k) wh'
        rcases hex with ⟨rfl, rfl, hw⟩ | ⟨rfl, rfl, hw⟩
        · rw [if_neg hw] at hsc
          refine ⟨hko, by rw [hls]; exact hst2, acc + x.toNat % 128 * 128 ^ k, by rw [hls]; exact hN2, by rw [hls]; omega, by rw [hls]; exact hq2, by rw [hls, hd2]; exact hsc⟩
        · rw [if_pos hw] at hsc
          exact ⟨hko, .inr ⟨rfl, _, by rw [hls]; exact hN2, by rw [hls]; exact hsc, hq1, by rw [hls]; exact hst2⟩⟩
      have h7 : IntKind.i64.wrap (7 * (k : Int)) = 7 * (k : Int) := IntWalk.i64_in _ (by omega)
      have hcm : ((x.toNat % 128 : Nat) : Int) = (x.toNat : Int) % 128 := by omega
      rw [hcm] at hwr
      clear hcm
      generalize hqd : x.toNat % 128 * 128 ^ k = q at *
      generalize had : acc + q = s at *
      clear hqd had hacc hq1 hq2
      by_cases hw : x.toNat < 128
      · have hfin := fun a => hfin true (.exit 0) a (.inr ⟨rfl, rfl, hw⟩)
        have bw : decide ((x.toNat : Int) < 128) = true := decide_eq_true (by omega)
        by_cases h9 : k = 9
        · have b9 : ((k : Int) == 9) = true := by rw [beq_iff_eq]; omega
          have bg : decide (1 < (x.toNat : Int) % 128) = false := decide_eq_false (by omega)
          have b0 : ((x.toNat : Int) % 128 == 0) = false := by rw [beq_eq_false_iff_ne]; omega
          clear hf h9 hw hx
          unfold srcA
          gi_wp2
          gi_region_with_o (fail)
          all_goals gi_wp2
          all_goals exact hfin _
        · have b9 : ((k : Int) == 9) = false := by rw [beq_eq_false_iff_ne]; omega
          by_cases h0 : x.toNat % 128 = 0
          · have bg : decide (1 < (x.toNat : Int) % 128) = false := decide_eq_false (by omega)
            have b0 : ((x.toNat : Int) % 128 == 0) = true := by rw [beq_iff_eq]; omega
            have bk : decide (0 < k) = false := decide_eq_false (by omega)
            clear hf h9 hw hx h0
            unfold srcA
            gi_wp2
            gi_region_with_o (fail)
            all_goals gi_wp2
            all_goals exact hfin _
          · have b0 : ((x.toNat : Int) % 128 == 0) = false := by rw [beq_eq_false_iff_ne]; omega
            clear hf h9 hw hx h0
            unfold srcA
            gi_wp2
            gi_region_with_o (fail)
            all_goals gi_wp2
            all_goals exact hfin _
      · have hfin := fun a => hfin false .normal a (.inl ⟨rfl, rfl, hw⟩)
        have bw : decide ((x.toNat : Int) < 128) = false := decide_eq_false (by omega)
        have b9 : ((k : Int) == 9) = false := by rw [beq_eq_false_iff_ne]; omega
        clear hf hw hx
        unfold srcA
        gi_wp2
        gi_region_with_o (fail)
        all_goals gi_wp2
        all_goals exact hfin _
  case done =>
    rintro D W rfl ⟨acc, hN, hp9, hacc, hsc⟩ ⟨_, _, v, _, hs⟩ hD
    have hr : readN l most = (0, 10, 0) := by
      rw [readN_scan, hsc, List.drop_length, scanB]
      rfl
    have hN2 : NumI g A l.length c w 0 l.length false 10 ((W.setCell ⟨w.heap.size, 0, none⟩ (.int .u64 0)).setCell ⟨w.heap.size + 1, 0, none⟩ (.int .i64 10)) := hN.ends 0 10
    have hD2 : ((W.setCell ⟨w.heap.size, 0, none⟩ (.int .u64 0)).setCell ⟨w.heap.size + 1, 0, none⟩ (.int .i64 10)).heap[W0.heap.size]? = some (.deferred (some [])) := by
      rw [heap_setCell_other _ _ _ _ (show W0.heap.size ≠ w.heap.size + 1 by omega), heap_setCell_other _ _ _ _ (show W0.heap.size ≠ w.heap.size by omega)]
      exact hD
    have hv2 := (Boxed.other hs.1 (show g ≠ w.heap.size by omega) (.int .u64 0)).other (show g ≠ w.heap.size + 1 by omega) (.int .i64 10)
    have c0 := hN.b0.cell
    have f0 := hN.b0.frozen
    have c1 := hN.b1.cell
    have f1 := hN.b1.frozen
    have c6 := hN.b6.cell
    clear hsc hrd hne hlc hch hSS st0 n0
    gi_wp2
    rw [Exit.noGoto_ret]
    gi_wp2
    rw [hr]
    exact num_leaves _ hS hN2 ⟨_, hv2⟩ hD2 (by omega) rfl rfl (.inr ⟨by decide, rfl⟩)
  case stop =>
    have hgW : ∀ k, k < 8 → g ≠ w.heap.size + k := fun k _ => by omega
    rintro D cd pre W rfl hpre (⟨rfl, many, wh, n, k, hN, hsc, v, hv⟩ | ⟨rfl, acc, hN, hsc, hacc, hst⟩) hD
    · have hr : readN l most = (0, 11, 0) := by rw [readN_scan, hsc]; rfl
      clear hsc hrd hne hlc hch hSS st0 n0
      gi_wp2
      rw [Exit.noGoto_ret]
      gi_wp2
      rw [hr]
      exact num_leaves _ hS hN ⟨_, hv⟩ hD (by omega) rfl rfl (.inr ⟨by decide, rfl⟩)
    · have c0 := hN.b0.cell
      have f0 := hN.b0.frozen
      have c1 := hN.b1.cell
      have f1 := hN.b1.frozen
      have c6 := hN.b6.cell
      have hD2 : ∀ u v, ((W.setCell ⟨w.heap.size, 0, none⟩ u).setCell ⟨w.heap.size + 1, 0, none⟩ v).heap[W0.heap.size]? = some (.deferred (some [])) := fun u v => by
        rw [heap_setCell_other _ _ _ _ (show W0.heap.size ≠ w.heap.size + 1 by omega), heap_setCell_other _ _ _ _ (show W0.heap.size ≠ w.heap.size by omega)]
        exact hD
      obtain ⟨_, _, v, hob, hs⟩ := hst
      have hs2 : ∀ u u', Src 67 g v (l.drop pre.length) ((W.setCell ⟨w.heap.size, 0, none⟩ u).setCell ⟨w.heap.size + 1, 0, none⟩ u') := fun u u' =>
        (hs.setBox hN.b0 (fun x e => by cases e) (by omega) u).setBox (hN.b1.other (by omega) u) (fun x e => by cases e) (by omega) u'
      clear hrd hne hlc hch hSS st0 n0
      by_cases hmo : most < acc
      · have hr : readN l most = (0, 12, 0) := by rw [readN_scan, hsc]; simp [hmo]
        have hN2 := hN.ends 0 12
        clear hsc
        gi_wp2
        rw [Exit.noGoto_ret]
        gi_wp2
        rw [hr]
        exact num_leaves _ hS hN2 ⟨_, (hs2 _ _).1⟩ (hD2 _ _) (by omega) rfl rfl (.inr ⟨by decide, rfl⟩)
      · have hr : readN l most = (acc, 0, pre.length) := by rw [readN_scan, hsc]; simp [hmo]
        have hN2 := hN.ends acc 0
        clear hsc
        gi_wp2
        rw [Exit.noGoto_ret]
        gi_wp2
        rw [hr]
        exact num_leaves _ hS hN2 ⟨_, (hs2 _ _).1⟩ (hD2 _ _) (by omega) rfl rfl (.inl ⟨rfl, _, hob, hs2 _ _⟩)
end Go.Proofs.Ytfifbjlmbdgmjaa
