/- Names of refs: Split's two drawn regions (printed by gensp.py). -/
import Derived.Test.YtmfncojkpkoijaaDoorNmG
import Derived.Test.YtmfncojkpkoijaaDoorRegM
import Derived.Test.YtmfncojkpkoijaaDoorRegR
namespace Go.Proofs.YtmfncojkpkoijaaDoor
open Go.RowKit
set_option linter.unusedVariables false

theorem getD_put (a : Act) (d : Nat) (v : Value) (t : Nat) (hd : d < a.tmps.size) : (a.put (some d) v).tmps.getD t undef = if t = d then v else a.tmps.getD t undef := by
  by_cases h : t = d
  · subst h
    rw [if_pos rfl]
    simp [Act.put, hd]
  · rw [if_neg h]
    simp [Act.put, Array.getElem?_setIfInBounds, Ne.symm h]
theorem size_put (a : Act) (d : Option Nat) (v : Value) : (a.put d v).tmps.size = a.tmps.size := by cases d <;> simp [Act.put]
theorem defers_put (a : Act) (d : Option Nat) (v : Value) : (a.put d v).defers = a.defers := by cases d <;> rfl
theorem wp_val {P : Program} {o : Oper} {a : Act} {w : World} {K : Act → World → Prop} {Q : Exit → Act → World → Prop} (v : Value) (h : (execOp a.eval o).run P w = .ok (.value v) w) (hK : K (a.put o.dst v) w) : o.wp P a w K Q := by
  unfold Oper.wp
  rw [h]
  exact hK

structure nsp6J (sr : ByteArray) (bo : Bool) (gt : Nat) (V : Array Value) (w0 : World) (b : Nat → Bool) (a : Act) (w : World) : Prop where
  d : a.defers = []
  z : a.tmps.size = 30
  s2 : a.tmps.getD 2 undef = .string sr
  s3 : a.tmps.getD 3 undef = .pointer (some ⟨gt, 0, none⟩)
  s4 : a.tmps.getD 4 undef = .bool bo
  s27 : b 0 = true → a.tmps.getD 27 undef = .string sr
  s28 : b 1 = true → a.tmps.getD 28 undef = .agg V
  s29 : b 2 = true → a.tmps.getD 29 undef = .bool bo
  s5 : b 6 = true → a.tmps.getD 5 undef = .int .i64 0
  m : w.heap[gt]? = some (.cells V 30 (0, 0))
  bl : Below gt w0 w
set_option maxRecDepth 20000 in
set_option maxHeartbeats 2000000 in
theorem nsp6 (sr : ByteArray) (bo : Bool) (gt : Nat) (V : Array Value) (w0 : World) (a0 : Act) (hV : (Tryd.prog.info? 30).map (·.size) = some V.size) (hV1 : ∀ u ∈ V.toList, u.oneCell' = true) {Q : Exit → Act → World → Prop}
    (h0 : nsp6J sr bo gt V w0 (fun _ => false) a0 w0.drew) (hend : ∀ a w, nsp6J sr bo gt V w0 (fun _ => true) a w → Q .normal a w) : (Code.region 6 (Reg.opsOf Tryd.f20 6) true).wp Tryd.prog Q a0 w0 := by
  have hn : (Reg.opsOf Tryd.f20 6).size = 7 := by kernel_rfl
  refine Reg.region_inv (by kernel_rfl) (nsp6J sr bo gt V w0) h0 (by kernel_rfl) (fun k hk => ?_) (fun b a w hJ hall => hend a w ?_)
  · rw [hn] at hk
    match k, hk with
    | 0, _ =>
      refine ⟨{ dst := some 27, op := Op.move (Operand.tmp 2), type := 9, pos := "refname.go:113", after := #[], guard := none }, by kernel_rfl, rfl, fun b a w hJ hb hd K hK => ?_⟩
      have hdl : Reg.dp (Reg.opsOf Tryd.f20 6) 0 = [] := by kernel_rfl
      rw [hdl] at hd
      have e2 : a.eval (.tmp 2) = _ := hJ.s2
      refine wp_val (.string sr) (by generalize a.eval = ρ at e2 ⊢; simp [execOp, go_sem, e2]) ?_
      refine hK _ _ { d := by rw [defers_put]; exact hJ.d, z := by rw [size_put]; exact hJ.z, s2 := by rw [getD_put _ _ _ _ (by rw [hJ.z]; omega), if_neg (by decide)]; exact hJ.s2, s3 := by rw [getD_put _ _ _ _ (by rw [hJ.z]; omega), if_neg (by decide)]; exact hJ.s3, s4 := by rw [getD_put _ _ _ _ (by rw [hJ.z]; omega), if_neg (by decide)]; exact hJ.s4, s27 := fun _ => by rw [getD_put _ _ _ _ (by rw [hJ.z]; omega), if_pos rfl], s28 := fun h => by rw [getD_put _ _ _ _ (by rw [hJ.z]; omega), if_neg (by decide)]; exact hJ.s28 (by simpa using h), s29 := fun h => by rw [getD_put _ _ _ _ (by rw [hJ.z]; omega), if_neg (by decide)]; exact hJ.s29 (by simpa using h), s5 := fun h => by rw [getD_put _ _ _ _ (by rw [hJ.z]; omega), if_neg (by decide)]; exact hJ.s5 (by simpa using h), m := hJ.m, bl := hJ.bl }
    | 1, _ =>
      refine ⟨{ dst := some 28, op := Op.load 30 (Operand.tmp 3), type := 30, pos := "refname.go:113", after := #[{ on := 3, ground := Ground.gcOnly Departure.lateStores }], guard := none }, by kernel_rfl, rfl, fun b a w hJ hb hd K hK => ?_⟩
      have hdl : Reg.dp (Reg.opsOf Tryd.f20 6) 1 = [] := by kernel_rfl
      rw [hdl] at hd
      have e3 : a.eval (.tmp 3) = _ := hJ.s3
      refine wp_load_row 30 (.tmp 3) rfl gt e3 30 V (0, 0) _ hJ.m Tryd.underlying30 rfl hV ?_
      refine hK _ _ { d := by rw [defers_put]; exact hJ.d, z := by rw [size_put]; exact hJ.z, s2 := by rw [getD_put _ _ _ _ (by rw [hJ.z]; omega), if_neg (by decide)]; exact hJ.s2, s3 := by rw [getD_put _ _ _ _ (by rw [hJ.z]; omega), if_neg (by decide)]; exact hJ.s3, s4 := by rw [getD_put _ _ _ _ (by rw [hJ.z]; omega), if_neg (by decide)]; exact hJ.s4, s27 := fun h => by rw [getD_put _ _ _ _ (by rw [hJ.z]; omega), if_neg (by decide)]; exact hJ.s27 (by simpa using h), s28 := fun _ => by rw [getD_put _ _ _ _ (by rw [hJ.z]; omega), if_pos rfl], s29 := fun h => by rw [getD_put _ _ _ _ (by rw [hJ.z]; omega), if_neg (by decide)]; exact hJ.s29 (by simpa using h), s5 := fun h => by rw [getD_put _ _ _ _ (by rw [hJ.z]; omega), if_neg (by decide)]; exact hJ.s5 (by simpa using h), m := hJ.m, bl := hJ.bl }
    | 2, _ =>
      refine ⟨{ dst := some 29, op := Op.move (Operand.tmp 4), type := 4, pos := "refname.go:113", after := #[{ on := 4, ground := Ground.gcOnly Departure.lateStores }], guard := none }, by kernel_rfl, rfl, fun b a w hJ hb hd K hK => ?_⟩
      have hdl : Reg.dp (Reg.opsOf Tryd.f20 6) 2 = [] := by kernel_rfl
      rw [hdl] at hd
      have e4 : a.eval (.tmp 4) = _ := hJ.s4
      refine wp_val (.bool bo) (by generalize a.eval = ρ at e4 ⊢; simp [execOp, go_sem, e4]) ?_
      refine hK _ _ { d := by rw [defers_put]; exact hJ.d, z := by rw [size_put]; exact hJ.z, s2 := by rw [getD_put _ _ _ _ (by rw [hJ.z]; omega), if_neg (by decide)]; exact hJ.s2, s3 := by rw [getD_put _ _ _ _ (by rw [hJ.z]; omega), if_neg (by decide)]; exact hJ.s3, s4 := by rw [getD_put _ _ _ _ (by rw [hJ.z]; omega), if_neg (by decide)]; exact hJ.s4, s27 := fun h => by rw [getD_put _ _ _ _ (by rw [hJ.z]; omega), if_neg (by decide)]; exact hJ.s27 (by simpa using h), s28 := fun h => by rw [getD_put _ _ _ _ (by rw [hJ.z]; omega), if_neg (by decide)]; exact hJ.s28 (by simpa using h), s29 := fun _ => by rw [getD_put _ _ _ _ (by rw [hJ.z]; omega), if_pos rfl], s5 := fun h => by rw [getD_put _ _ _ _ (by rw [hJ.z]; omega), if_neg (by decide)]; exact hJ.s5 (by simpa using h), m := hJ.m, bl := hJ.bl }
    | 3, _ =>
      refine ⟨{ dst := some 2, op := Op.assign (Operand.tmp 27), type := 9, pos := "refname.go:113", after := #[{ on := 0, ground := Ground.data }, { on := 0, ground := Ground.phase }, { on := 1, ground := Ground.textOnly Departure.lateStores }, { on := 2, ground := Ground.textOnly Departure.lateStores }], guard := none }, by kernel_rfl, rfl, fun b a w hJ hb hd K hK => ?_⟩
      have hdl : Reg.dp (Reg.opsOf Tryd.f20 6) 3 = [0, 0] := by kernel_rfl
      rw [hdl] at hd
      have e27 : a.eval (.tmp 27) = _ := hJ.s27 (hd 0 (by decide))
      refine wp_val (.string sr) (by generalize a.eval = ρ at e27 ⊢; simp [execOp, go_sem, e27]) ?_
      refine hK _ _ { d := by rw [defers_put]; exact hJ.d, z := by rw [size_put]; exact hJ.z, s2 := by rw [getD_put _ _ _ _ (by rw [hJ.z]; omega), if_pos rfl], s3 := by rw [getD_put _ _ _ _ (by rw [hJ.z]; omega), if_neg (by decide)]; exact hJ.s3, s4 := by rw [getD_put _ _ _ _ (by rw [hJ.z]; omega), if_neg (by decide)]; exact hJ.s4, s27 := fun h => by rw [getD_put _ _ _ _ (by rw [hJ.z]; omega), if_neg (by decide)]; exact hJ.s27 (by simpa using h), s28 := fun h => by rw [getD_put _ _ _ _ (by rw [hJ.z]; omega), if_neg (by decide)]; exact hJ.s28 (by simpa using h), s29 := fun h => by rw [getD_put _ _ _ _ (by rw [hJ.z]; omega), if_neg (by decide)]; exact hJ.s29 (by simpa using h), s5 := fun h => by rw [getD_put _ _ _ _ (by rw [hJ.z]; omega), if_neg (by decide)]; exact hJ.s5 (by simpa using h), m := hJ.m, bl := hJ.bl }
    | 4, _ =>
      refine ⟨{ dst := none, op := Op.store 30 (Operand.tmp 3) (Operand.tmp 28), type := 0, pos := "refname.go:113", after := #[{ on := 1, ground := Ground.data }, { on := 3, ground := Ground.chain }, { on := 0, ground := Ground.phase }, { on := 1, ground := Ground.phase }, { on := 2, ground := Ground.textOnly Departure.lateStores }, { on := 3, ground := Ground.phase }], guard := none }, by kernel_rfl, rfl, fun b a w hJ hb hd K hK => ?_⟩
      have hdl : Reg.dp (Reg.opsOf Tryd.f20 6) 4 = [1, 3, 0, 1, 3] := by kernel_rfl
      rw [hdl] at hd
      have e3 : a.eval (.tmp 3) = _ := hJ.s3
      have e28 : a.eval (.tmp 28) = _ := hJ.s28 (hd 1 (by decide))
      refine wp_store_z 30 (.tmp 3) (.tmp 28) rfl gt e3 V e28 V 30 hJ.m rfl hV hV1 ?_
      refine hK _ _ { d := hJ.d, z := hJ.z, s2 := hJ.s2, s3 := hJ.s3, s4 := hJ.s4, s27 := fun h => hJ.s27 (by simpa using h), s28 := fun h => hJ.s28 (by simpa using h), s29 := fun h => hJ.s29 (by simpa using h), s5 := fun h => hJ.s5 (by simpa using h), m := setRow_heap _ _ _ _ _ _ hJ.m, bl := below_setRow hJ.bl (Nat.le_refl _) V }
    | 5, _ =>
      refine ⟨{ dst := some 4, op := Op.assign (Operand.tmp 29), type := 4, pos := "refname.go:113", after := #[{ on := 2, ground := Ground.data }, { on := 4, ground := Ground.chain }, { on := 0, ground := Ground.phase }, { on := 1, ground := Ground.phase }, { on := 2, ground := Ground.phase }, { on := 3, ground := Ground.phase }, { on := 4, ground := Ground.phase }], guard := none }, by kernel_rfl, rfl, fun b a w hJ hb hd K hK => ?_⟩
      have hdl : Reg.dp (Reg.opsOf Tryd.f20 6) 5 = [2, 4, 0, 1, 2, 3, 4] := by kernel_rfl
      rw [hdl] at hd
      have e29 : a.eval (.tmp 29) = _ := hJ.s29 (hd 2 (by decide))
      refine wp_val (.bool bo) (by generalize a.eval = ρ at e29 ⊢; simp [execOp, go_sem, e29]) ?_
      refine hK _ _ { d := by rw [defers_put]; exact hJ.d, z := by rw [size_put]; exact hJ.z, s2 := by rw [getD_put _ _ _ _ (by rw [hJ.z]; omega), if_neg (by decide)]; exact hJ.s2, s3 := by rw [getD_put _ _ _ _ (by rw [hJ.z]; omega), if_neg (by decide)]; exact hJ.s3, s4 := by rw [getD_put _ _ _ _ (by rw [hJ.z]; omega), if_pos rfl], s27 := fun h => by rw [getD_put _ _ _ _ (by rw [hJ.z]; omega), if_neg (by decide)]; exact hJ.s27 (by simpa using h), s28 := fun h => by rw [getD_put _ _ _ _ (by rw [hJ.z]; omega), if_neg (by decide)]; exact hJ.s28 (by simpa using h), s29 := fun h => by rw [getD_put _ _ _ _ (by rw [hJ.z]; omega), if_neg (by decide)]; exact hJ.s29 (by simpa using h), s5 := fun h => by rw [getD_put _ _ _ _ (by rw [hJ.z]; omega), if_neg (by decide)]; exact hJ.s5 (by simpa using h), m := hJ.m, bl := hJ.bl }
    | 6, _ =>
      refine ⟨{ dst := some 5, op := Op.assign (Operand.const (Value.int IntKind.i64 0)), type := 23, pos := "refname.go:113", after := #[{ on := 5, ground := Ground.chain }, { on := 0, ground := Ground.phase }, { on := 1, ground := Ground.phase }, { on := 2, ground := Ground.phase }, { on := 3, ground := Ground.phase }, { on := 4, ground := Ground.phase }, { on := 5, ground := Ground.phase }], guard := none }, by kernel_rfl, rfl, fun b a w hJ hb hd K hK => ?_⟩
      have hdl : Reg.dp (Reg.opsOf Tryd.f20 6) 6 = [5, 0, 1, 2, 3, 4, 5] := by kernel_rfl
      rw [hdl] at hd
      refine wp_val (.int .i64 0) (by rfl) ?_
      refine hK _ _ { d := by rw [defers_put]; exact hJ.d, z := by rw [size_put]; exact hJ.z, s2 := by rw [getD_put _ _ _ _ (by rw [hJ.z]; omega), if_neg (by decide)]; exact hJ.s2, s3 := by rw [getD_put _ _ _ _ (by rw [hJ.z]; omega), if_neg (by decide)]; exact hJ.s3, s4 := by rw [getD_put _ _ _ _ (by rw [hJ.z]; omega), if_neg (by decide)]; exact hJ.s4, s27 := fun h => by rw [getD_put _ _ _ _ (by rw [hJ.z]; omega), if_neg (by decide)]; exact hJ.s27 (by simpa using h), s28 := fun h => by rw [getD_put _ _ _ _ (by rw [hJ.z]; omega), if_neg (by decide)]; exact hJ.s28 (by simpa using h), s29 := fun h => by rw [getD_put _ _ _ _ (by rw [hJ.z]; omega), if_neg (by decide)]; exact hJ.s29 (by simpa using h), s5 := fun _ => by rw [getD_put _ _ _ _ (by rw [hJ.z]; omega), if_pos rfl], m := hJ.m, bl := hJ.bl }
    | k + 7, h => exact absurd h (by omega)
  · rw [hn] at hall
    exact { hJ with s27 := fun _ => hJ.s27 (hall 0 (by omega)), s28 := fun _ => hJ.s28 (hall 1 (by omega)), s29 := fun _ => hJ.s29 (hall 2 (by omega)), s5 := fun _ => hJ.s5 (hall 6 (by omega)) }
structure nsp14J (sr sq : ByteArray) (at' : Int) (gt ge : Nat) (V : Array Value) (w0 : World) (b : Nat → Bool) (a : Act) (w : World) : Prop where
  d : a.defers = []
  z : a.tmps.size = 52
  s0 : a.tmps.getD 0 undef = .string sr
  s3 : a.tmps.getD 3 undef = .pointer (some ⟨gt, 0, none⟩)
  s6 : a.tmps.getD 6 undef = .int .i64 at'
  s8 : a.tmps.getD 8 undef = .pointer (some ⟨ge, 0, none⟩)
  s48 : b 0 = true → a.tmps.getD 48 undef = .string sr
  s49 : b 1 = true → a.tmps.getD 49 undef = .int .i64 at'
  s50 : b 2 = true → a.tmps.getD 50 undef = .string sq
  s51 : b 3 = true → a.tmps.getD 51 undef = .agg V
  s2 : b 4 = true → a.tmps.getD 2 undef = .string sq
  s4 : b 6 = true → a.tmps.getD 4 undef = .bool true
  s5 : b 7 = true → a.tmps.getD 5 undef = .int .i64 0
  m : ∃ X : Array Value, X.size = V.size ∧ w.heap[gt]? = some (.cells X 30 (0, 0))
  mv : b 5 = true → w.heap[gt]? = some (.cells V 30 (0, 0))
  me : w.heap[ge]? = some (.cells V 30 (0, 0))
  bl : Below gt w0 w
set_option maxRecDepth 20000 in
set_option maxHeartbeats 2000000 in
theorem nsp14 (sr sq : ByteArray) (at' : Int) (gt ge : Nat) (V : Array Value) (w0 : World) (a0 : Act) (hV : (Tryd.prog.info? 30).map (·.size) = some V.size) (hV1 : ∀ u ∈ V.toList, u.oneCell' = true) (hne : ge ≠ gt) (hsl : ∀ W, (Instr.slice 9 (.string sr) none (some (.int .i64 at')) none).run Tryd.prog W = .ok (.string sq) W) {Q : Exit → Act → World → Prop}
    (h0 : nsp14J sr sq at' gt ge V w0 (fun _ => false) a0 w0.drew) (hend : ∀ a w, nsp14J sr sq at' gt ge V w0 (fun _ => true) a w → Q .normal a w) : (Code.region 14 (Reg.opsOf Tryd.f21 14) true).wp Tryd.prog Q a0 w0 := by
  have hn : (Reg.opsOf Tryd.f21 14).size = 8 := by kernel_rfl
  refine Reg.region_inv (by kernel_rfl) (nsp14J sr sq at' gt ge V w0) h0 (by kernel_rfl) (fun k hk => ?_) (fun b a w hJ hall => hend a w ?_)
  · rw [hn] at hk
    match k, hk with
    | 0, _ =>
      refine ⟨{ dst := some 48, op := Op.move (Operand.tmp 0), type := 9, pos := "ref.go:118", after := #[], guard := none }, by kernel_rfl, rfl, fun b a w hJ hb hd K hK => ?_⟩
      have hdl : Reg.dp (Reg.opsOf Tryd.f21 14) 0 = [] := by kernel_rfl
      rw [hdl] at hd
      have e0 : a.eval (.tmp 0) = _ := hJ.s0
      refine wp_val (.string sr) (by generalize a.eval = ρ at e0 ⊢; simp [execOp, go_sem, e0]) ?_
      refine hK _ _ { d := by rw [defers_put]; exact hJ.d, z := by rw [size_put]; exact hJ.z, s0 := by rw [getD_put _ _ _ _ (by rw [hJ.z]; omega), if_neg (by decide)]; exact hJ.s0, s3 := by rw [getD_put _ _ _ _ (by rw [hJ.z]; omega), if_neg (by decide)]; exact hJ.s3, s6 := by rw [getD_put _ _ _ _ (by rw [hJ.z]; omega), if_neg (by decide)]; exact hJ.s6, s8 := by rw [getD_put _ _ _ _ (by rw [hJ.z]; omega), if_neg (by decide)]; exact hJ.s8, s48 := fun _ => by rw [getD_put _ _ _ _ (by rw [hJ.z]; omega), if_pos rfl], s49 := fun h => by rw [getD_put _ _ _ _ (by rw [hJ.z]; omega), if_neg (by decide)]; exact hJ.s49 (by simpa using h), s50 := fun h => by rw [getD_put _ _ _ _ (by rw [hJ.z]; omega), if_neg (by decide)]; exact hJ.s50 (by simpa using h), s51 := fun h => by rw [getD_put _ _ _ _ (by rw [hJ.z]; omega), if_neg (by decide)]; exact hJ.s51 (by simpa using h), s2 := fun h => by rw [getD_put _ _ _ _ (by rw [hJ.z]; omega), if_neg (by decide)]; exact hJ.s2 (by simpa using h), s4 := fun h => by rw [getD_put _ _ _ _ (by rw [hJ.z]; omega), if_neg (by decide)]; exact hJ.s4 (by simpa using h), s5 := fun h => by rw [getD_put _ _ _ _ (by rw [hJ.z]; omega), if_neg (by decide)]; exact hJ.s5 (by simpa using h), m := hJ.m, mv := fun h => hJ.mv (by simpa using h), me := hJ.me, bl := hJ.bl }
    | 1, _ =>
      refine ⟨{ dst := some 49, op := Op.move (Operand.tmp 6), type := 3, pos := "ref.go:118", after := #[], guard := none }, by kernel_rfl, rfl, fun b a w hJ hb hd K hK => ?_⟩
      have hdl : Reg.dp (Reg.opsOf Tryd.f21 14) 1 = [] := by kernel_rfl
      rw [hdl] at hd
      have e6 : a.eval (.tmp 6) = _ := hJ.s6
      refine wp_val (.int .i64 at') (by generalize a.eval = ρ at e6 ⊢; simp [execOp, go_sem, e6]) ?_
      refine hK _ _ { d := by rw [defers_put]; exact hJ.d, z := by rw [size_put]; exact hJ.z, s0 := by rw [getD_put _ _ _ _ (by rw [hJ.z]; omega), if_neg (by decide)]; exact hJ.s0, s3 := by rw [getD_put _ _ _ _ (by rw [hJ.z]; omega), if_neg (by decide)]; exact hJ.s3, s6 := by rw [getD_put _ _ _ _ (by rw [hJ.z]; omega), if_neg (by decide)]; exact hJ.s6, s8 := by rw [getD_put _ _ _ _ (by rw [hJ.z]; omega), if_neg (by decide)]; exact hJ.s8, s48 := fun h => by rw [getD_put _ _ _ _ (by rw [hJ.z]; omega), if_neg (by decide)]; exact hJ.s48 (by simpa using h), s49 := fun _ => by rw [getD_put _ _ _ _ (by rw [hJ.z]; omega), if_pos rfl], s50 := fun h => by rw [getD_put _ _ _ _ (by rw [hJ.z]; omega), if_neg (by decide)]; exact hJ.s50 (by simpa using h), s51 := fun h => by rw [getD_put _ _ _ _ (by rw [hJ.z]; omega), if_neg (by decide)]; exact hJ.s51 (by simpa using h), s2 := fun h => by rw [getD_put _ _ _ _ (by rw [hJ.z]; omega), if_neg (by decide)]; exact hJ.s2 (by simpa using h), s4 := fun h => by rw [getD_put _ _ _ _ (by rw [hJ.z]; omega), if_neg (by decide)]; exact hJ.s4 (by simpa using h), s5 := fun h => by rw [getD_put _ _ _ _ (by rw [hJ.z]; omega), if_neg (by decide)]; exact hJ.s5 (by simpa using h), m := hJ.m, mv := fun h => hJ.mv (by simpa using h), me := hJ.me, bl := hJ.bl }
    | 2, _ =>
      refine ⟨{ dst := some 50, op := Op.slice 9 (Operand.tmp 48) none (some (Operand.tmp 49)) none, type := 9, pos := "ref.go:118", after := #[{ on := 0, ground := Ground.data }, { on := 1, ground := Ground.data }], guard := none }, by kernel_rfl, rfl, fun b a w hJ hb hd K hK => ?_⟩
      have hdl : Reg.dp (Reg.opsOf Tryd.f21 14) 2 = [0, 1] := by kernel_rfl
      rw [hdl] at hd
      have e48 : a.eval (.tmp 48) = _ := hJ.s48 (hd 0 (by decide))
      have e49 : a.eval (.tmp 49) = _ := hJ.s49 (hd 1 (by decide))
      refine wp_val (.string sq) (by generalize a.eval = ρ at e48 e49 ⊢; simp [execOp, go_sem, e48, e49, hsl]) ?_
      refine hK _ _ { d := by rw [defers_put]; exact hJ.d, z := by rw [size_put]; exact hJ.z, s0 := by rw [getD_put _ _ _ _ (by rw [hJ.z]; omega), if_neg (by decide)]; exact hJ.s0, s3 := by rw [getD_put _ _ _ _ (by rw [hJ.z]; omega), if_neg (by decide)]; exact hJ.s3, s6 := by rw [getD_put _ _ _ _ (by rw [hJ.z]; omega), if_neg (by decide)]; exact hJ.s6, s8 := by rw [getD_put _ _ _ _ (by rw [hJ.z]; omega), if_neg (by decide)]; exact hJ.s8, s48 := fun h => by rw [getD_put _ _ _ _ (by rw [hJ.z]; omega), if_neg (by decide)]; exact hJ.s48 (by simpa using h), s49 := fun h => by rw [getD_put _ _ _ _ (by rw [hJ.z]; omega), if_neg (by decide)]; exact hJ.s49 (by simpa using h), s50 := fun _ => by rw [getD_put _ _ _ _ (by rw [hJ.z]; omega), if_pos rfl], s51 := fun h => by rw [getD_put _ _ _ _ (by rw [hJ.z]; omega), if_neg (by decide)]; exact hJ.s51 (by simpa using h), s2 := fun h => by rw [getD_put _ _ _ _ (by rw [hJ.z]; omega), if_neg (by decide)]; exact hJ.s2 (by simpa using h), s4 := fun h => by rw [getD_put _ _ _ _ (by rw [hJ.z]; omega), if_neg (by decide)]; exact hJ.s4 (by simpa using h), s5 := fun h => by rw [getD_put _ _ _ _ (by rw [hJ.z]; omega), if_neg (by decide)]; exact hJ.s5 (by simpa using h), m := hJ.m, mv := fun h => hJ.mv (by simpa using h), me := hJ.me, bl := hJ.bl }
    | 3, _ =>
      refine ⟨{ dst := some 51, op := Op.load 30 (Operand.tmp 8), type := 30, pos := "ref.go:118", after := #[{ on := 4, ground := Ground.gcOnly Departure.lateStores }], guard := none }, by kernel_rfl, rfl, fun b a w hJ hb hd K hK => ?_⟩
      have hdl : Reg.dp (Reg.opsOf Tryd.f21 14) 3 = [] := by kernel_rfl
      rw [hdl] at hd
      have e8 : a.eval (.tmp 8) = _ := hJ.s8
      refine wp_load_row 30 (.tmp 8) rfl ge e8 30 V (0, 0) _ hJ.me Tryd.underlying30 rfl hV ?_
      refine hK _ _ { d := by rw [defers_put]; exact hJ.d, z := by rw [size_put]; exact hJ.z, s0 := by rw [getD_put _ _ _ _ (by rw [hJ.z]; omega), if_neg (by decide)]; exact hJ.s0, s3 := by rw [getD_put _ _ _ _ (by rw [hJ.z]; omega), if_neg (by decide)]; exact hJ.s3, s6 := by rw [getD_put _ _ _ _ (by rw [hJ.z]; omega), if_neg (by decide)]; exact hJ.s6, s8 := by rw [getD_put _ _ _ _ (by rw [hJ.z]; omega), if_neg (by decide)]; exact hJ.s8, s48 := fun h => by rw [getD_put _ _ _ _ (by rw [hJ.z]; omega), if_neg (by decide)]; exact hJ.s48 (by simpa using h), s49 := fun h => by rw [getD_put _ _ _ _ (by rw [hJ.z]; omega), if_neg (by decide)]; exact hJ.s49 (by simpa using h), s50 := fun h => by rw [getD_put _ _ _ _ (by rw [hJ.z]; omega), if_neg (by decide)]; exact hJ.s50 (by simpa using h), s51 := fun _ => by rw [getD_put _ _ _ _ (by rw [hJ.z]; omega), if_pos rfl], s2 := fun h => by rw [getD_put _ _ _ _ (by rw [hJ.z]; omega), if_neg (by decide)]; exact hJ.s2 (by simpa using h), s4 := fun h => by rw [getD_put _ _ _ _ (by rw [hJ.z]; omega), if_neg (by decide)]; exact hJ.s4 (by simpa using h), s5 := fun h => by rw [getD_put _ _ _ _ (by rw [hJ.z]; omega), if_neg (by decide)]; exact hJ.s5 (by simpa using h), m := hJ.m, mv := fun h => hJ.mv (by simpa using h), me := hJ.me, bl := hJ.bl }
    | 4, _ =>
      refine ⟨{ dst := some 2, op := Op.assign (Operand.tmp 50), type := 9, pos := "ref.go:118", after := #[{ on := 2, ground := Ground.data }, { on := 0, ground := Ground.phase }, { on := 1, ground := Ground.phase }, { on := 2, ground := Ground.phase }, { on := 3, ground := Ground.textOnly Departure.lateStores }], guard := none }, by kernel_rfl, rfl, fun b a w hJ hb hd K hK => ?_⟩
      have hdl : Reg.dp (Reg.opsOf Tryd.f21 14) 4 = [2, 0, 1, 2] := by kernel_rfl
      rw [hdl] at hd
      have e50 : a.eval (.tmp 50) = _ := hJ.s50 (hd 2 (by decide))
      refine wp_val (.string sq) (by generalize a.eval = ρ at e50 ⊢; simp [execOp, go_sem, e50]) ?_
      refine hK _ _ { d := by rw [defers_put]; exact hJ.d, z := by rw [size_put]; exact hJ.z, s0 := by rw [getD_put _ _ _ _ (by rw [hJ.z]; omega), if_neg (by decide)]; exact hJ.s0, s3 := by rw [getD_put _ _ _ _ (by rw [hJ.z]; omega), if_neg (by decide)]; exact hJ.s3, s6 := by rw [getD_put _ _ _ _ (by rw [hJ.z]; omega), if_neg (by decide)]; exact hJ.s6, s8 := by rw [getD_put _ _ _ _ (by rw [hJ.z]; omega), if_neg (by decide)]; exact hJ.s8, s48 := fun h => by rw [getD_put _ _ _ _ (by rw [hJ.z]; omega), if_neg (by decide)]; exact hJ.s48 (by simpa using h), s49 := fun h => by rw [getD_put _ _ _ _ (by rw [hJ.z]; omega), if_neg (by decide)]; exact hJ.s49 (by simpa using h), s50 := fun h => by rw [getD_put _ _ _ _ (by rw [hJ.z]; omega), if_neg (by decide)]; exact hJ.s50 (by simpa using h), s51 := fun h => by rw [getD_put _ _ _ _ (by rw [hJ.z]; omega), if_neg (by decide)]; exact hJ.s51 (by simpa using h), s2 := fun _ => by rw [getD_put _ _ _ _ (by rw [hJ.z]; omega), if_pos rfl], s4 := fun h => by rw [getD_put _ _ _ _ (by rw [hJ.z]; omega), if_neg (by decide)]; exact hJ.s4 (by simpa using h), s5 := fun h => by rw [getD_put _ _ _ _ (by rw [hJ.z]; omega), if_neg (by decide)]; exact hJ.s5 (by simpa using h), m := hJ.m, mv := fun h => hJ.mv (by simpa using h), me := hJ.me, bl := hJ.bl }
    | 5, _ =>
      refine ⟨{ dst := none, op := Op.store 30 (Operand.tmp 3) (Operand.tmp 51), type := 0, pos := "ref.go:118", after := #[{ on := 3, ground := Ground.data }, { on := 4, ground := Ground.chain }, { on := 0, ground := Ground.phase }, { on := 1, ground := Ground.phase }, { on := 2, ground := Ground.phase }, { on := 3, ground := Ground.phase }, { on := 4, ground := Ground.phase }], guard := none }, by kernel_rfl, rfl, fun b a w hJ hb hd K hK => ?_⟩
      have hdl : Reg.dp (Reg.opsOf Tryd.f21 14) 5 = [3, 4, 0, 1, 2, 3, 4] := by kernel_rfl
      rw [hdl] at hd
      have e3 : a.eval (.tmp 3) = _ := hJ.s3
      have e51 : a.eval (.tmp 51) = _ := hJ.s51 (hd 3 (by decide))
      obtain ⟨X, hXs, hX⟩ := hJ.m
      refine wp_store_z 30 (.tmp 3) (.tmp 51) rfl gt e3 V e51 X 30 hX hXs.symm hV hV1 ?_
      have hn1 := setRow_heap w gt X V _ _ hX
      refine hK _ _ { d := hJ.d, z := hJ.z, s0 := hJ.s0, s3 := hJ.s3, s6 := hJ.s6, s8 := hJ.s8, s48 := fun h => hJ.s48 (by simpa using h), s49 := fun h => hJ.s49 (by simpa using h), s50 := fun h => hJ.s50 (by simpa using h), s51 := fun h => hJ.s51 (by simpa using h), s2 := fun h => hJ.s2 (by simpa using h), s4 := fun h => hJ.s4 (by simpa using h), s5 := fun h => hJ.s5 (by simpa using h), m := ⟨V, rfl, hn1⟩, mv := fun _ => hn1, me := by rw [setRow_other _ _ _ _ hne]; exact hJ.me, bl := below_setRow hJ.bl (Nat.le_refl _) V }
    | 6, _ =>
      refine ⟨{ dst := some 4, op := Op.assign (Operand.const (Value.bool true)), type := 4, pos := "ref.go:118", after := #[{ on := 5, ground := Ground.chain }, { on := 0, ground := Ground.phase }, { on := 1, ground := Ground.phase }, { on := 2, ground := Ground.phase }, { on := 3, ground := Ground.phase }, { on := 4, ground := Ground.phase }, { on := 5, ground := Ground.phase }], guard := none }, by kernel_rfl, rfl, fun b a w hJ hb hd K hK => ?_⟩
      have hdl : Reg.dp (Reg.opsOf Tryd.f21 14) 6 = [5, 0, 1, 2, 3, 4, 5] := by kernel_rfl
      rw [hdl] at hd
      refine wp_val (.bool true) (by rfl) ?_
      refine hK _ _ { d := by rw [defers_put]; exact hJ.d, z := by rw [size_put]; exact hJ.z, s0 := by rw [getD_put _ _ _ _ (by rw [hJ.z]; omega), if_neg (by decide)]; exact hJ.s0, s3 := by rw [getD_put _ _ _ _ (by rw [hJ.z]; omega), if_neg (by decide)]; exact hJ.s3, s6 := by rw [getD_put _ _ _ _ (by rw [hJ.z]; omega), if_neg (by decide)]; exact hJ.s6, s8 := by rw [getD_put _ _ _ _ (by rw [hJ.z]; omega), if_neg (by decide)]; exact hJ.s8, s48 := fun h => by rw [getD_put _ _ _ _ (by rw [hJ.z]; omega), if_neg (by decide)]; exact hJ.s48 (by simpa using h), s49 := fun h => by rw [getD_put _ _ _ _ (by rw [hJ.z]; omega), if_neg (by decide)]; exact hJ.s49 (by simpa using h), s50 := fun h => by rw [getD_put _ _ _ _ (by rw [hJ.z]; omega), if_neg (by decide)]; exact hJ.s50 (by simpa using h), s51 := fun h => by rw [getD_put _ _ _ _ (by rw [hJ.z]; omega), if_neg (by decide)]; exact hJ.s51 (by simpa using h), s2 := fun h => by rw [getD_put _ _ _ _ (by rw [hJ.z]; omega), if_neg (by decide)]; exact hJ.s2 (by simpa using h), s4 := fun _ => by rw [getD_put _ _ _ _ (by rw [hJ.z]; omega), if_pos rfl], s5 := fun h => by rw [getD_put _ _ _ _ (by rw [hJ.z]; omega), if_neg (by decide)]; exact hJ.s5 (by simpa using h), m := hJ.m, mv := fun h => hJ.mv (by simpa using h), me := hJ.me, bl := hJ.bl }
    | 7, _ =>
      refine ⟨{ dst := some 5, op := Op.assign (Operand.const (Value.int IntKind.i64 0)), type := 3, pos := "ref.go:118", after := #[{ on := 6, ground := Ground.chain }, { on := 0, ground := Ground.phase }, { on := 1, ground := Ground.phase }, { on := 2, ground := Ground.phase }, { on := 3, ground := Ground.phase }, { on := 4, ground := Ground.phase }, { on := 5, ground := Ground.phase }, { on := 6, ground := Ground.phase }], guard := none }, by kernel_rfl, rfl, fun b a w hJ hb hd K hK => ?_⟩
      have hdl : Reg.dp (Reg.opsOf Tryd.f21 14) 7 = [6, 0, 1, 2, 3, 4, 5, 6] := by kernel_rfl
      rw [hdl] at hd
      refine wp_val (.int .i64 0) (by rfl) ?_
      refine hK _ _ { d := by rw [defers_put]; exact hJ.d, z := by rw [size_put]; exact hJ.z, s0 := by rw [getD_put _ _ _ _ (by rw [hJ.z]; omega), if_neg (by decide)]; exact hJ.s0, s3 := by rw [getD_put _ _ _ _ (by rw [hJ.z]; omega), if_neg (by decide)]; exact hJ.s3, s6 := by rw [getD_put _ _ _ _ (by rw [hJ.z]; omega), if_neg (by decide)]; exact hJ.s6, s8 := by rw [getD_put _ _ _ _ (by rw [hJ.z]; omega), if_neg (by decide)]; exact hJ.s8, s48 := fun h => by rw [getD_put _ _ _ _ (by rw [hJ.z]; omega), if_neg (by decide)]; exact hJ.s48 (by simpa using h), s49 := fun h => by rw [getD_put _ _ _ _ (by rw [hJ.z]; omega), if_neg (by decide)]; exact hJ.s49 (by simpa using h), s50 := fun h => by rw [getD_put _ _ _ _ (by rw [hJ.z]; omega), if_neg (by decide)]; exact hJ.s50 (by simpa using h), s51 := fun h => by rw [getD_put _ _ _ _ (by rw [hJ.z]; omega), if_neg (by decide)]; exact hJ.s51 (by simpa using h), s2 := fun h => by rw [getD_put _ _ _ _ (by rw [hJ.z]; omega), if_neg (by decide)]; exact hJ.s2 (by simpa using h), s4 := fun h => by rw [getD_put _ _ _ _ (by rw [hJ.z]; omega), if_neg (by decide)]; exact hJ.s4 (by simpa using h), s5 := fun _ => by rw [getD_put _ _ _ _ (by rw [hJ.z]; omega), if_pos rfl], m := hJ.m, mv := fun h => hJ.mv (by simpa using h), me := hJ.me, bl := hJ.bl }
    | k + 8, h => exact absurd h (by omega)
  · rw [hn] at hall
    exact { hJ with s48 := fun _ => hJ.s48 (hall 0 (by omega)), s49 := fun _ => hJ.s49 (hall 1 (by omega)), s50 := fun _ => hJ.s50 (hall 2 (by omega)), s51 := fun _ => hJ.s51 (hall 3 (by omega)), s2 := fun _ => hJ.s2 (hall 4 (by omega)), s4 := fun _ => hJ.s4 (hall 6 (by omega)), s5 := fun _ => hJ.s5 (hall 7 (by omega)), mv := fun _ => hJ.mv (hall 5 (by omega)) }
end Go.Proofs.YtmfncojkpkoijaaDoor
