/- Regions that draw their order: their obligations (printed by regen2.py). -/
import Derived.Test.YtfifbjlmbdgmjaaVecM
import Derived.Test.YtfifbjlmbdgmjaaRegS
namespace Go.Proofs.Ytfifbjlmbdgmjaa
open Go.RowKit
def atmostGR (a b m : List Nat) (ga gb : Nat) (d : Bool) : Nat → Value → World → Prop
  | 0 => fun x_ _ => x_ = (Value.agg (vC a))
  | 1 => fun x_ _ => x_ = (Value.agg (vC b))
  | 2 => Reg.IsRow 24 (vecs [a, b]).toArray 2
  | 3 => fun x_ _ => x_ = (Value.agg (vC m))
  | 4 => fun x_ _ => x_ = (Value.agg (vC b))
  | 5 => fun x_ _ => x_ = (Value.bool d)
  | 6 => fun x_ _ => x_ = (Value.bool d)
  | _ => fun _ _ => True
theorem atmostG_stable (a b m : List Nat) (ga gb : Nat) (d : Bool) : ∀ i_ u_ w_ w_', (atmostGR a b m ga gb d) i_ u_ w_ → Below w_.heap.size w_ w_' → (atmostGR a b m ga gb d) i_ u_ w_' := fun i_ u_ w_ w_' h_ hb_ => by
  match i_, h_ with
  | 0, h_ => exact h_
  | 1, h_ => exact h_
  | 2, h_ => exact (Reg.IsRow.below h_ hb_)
  | 3, h_ => exact h_
  | 4, h_ => exact h_
  | 5, h_ => exact h_
  | 6, h_ => exact h_
  | (_ + 7), _ => trivial
set_option maxHeartbeats 4000000 in
set_option maxRecDepth 20000 in
theorem atmostG (a b m : List Nat) (ga gb : Nat) (d : Bool) (w0 : World) {s0 s1 s5 s6 s7 s8 s9 s10 : Value}
    (ha : a.length = 16) (hb' : b.length = 16) (hm : m.length = 16) (m1 : maxV a b = m) (d1 : decide (m = b) = d)
    (M_ga : ∀ W, Below w0.heap.size w0 W → W.heap[ga]? = some (.cells (vC a) 24 (0, 0)))
    (M_gb : ∀ W, Below w0.heap.size w0 W → W.heap[gb]? = some (.cells (vC b) 24 (0, 0)))
    {Q : Exit → Act → World → Prop}
    (hend : ∀ (w : World) (r7 : Value), Below w0.heap.size w0 w → Q .normal { tmps := #[s0, s1, (Value.pointer (some ⟨ga, 0, none⟩)), (Value.pointer (some ⟨gb, 0, none⟩)), (Value.bool d), (Value.agg (vC a)), (Value.agg (vC b)), r7, (Value.agg (vC m)), (Value.agg (vC b)), (Value.bool d)], defers := [] } w) :
    (Code.region 1 (Reg.opsOf Try.f13 1) true).wp Try.prog Q { tmps := #[s0, s1, (Value.pointer (some ⟨ga, 0, none⟩)), (Value.pointer (some ⟨gb, 0, none⟩)), (Value.bool false), s5, s6, s7, s8, s9, s10], defers := [] } w0 := by
  obtain ⟨a0, ha0⟩ : ∃ a0 : Act, a0 = { tmps := #[s0, s1, (Value.pointer (some ⟨ga, 0, none⟩)), (Value.pointer (some ⟨gb, 0, none⟩)), (Value.bool false), s5, s6, s7, s8, s9, s10], defers := [] } := ⟨_, rfl⟩
  have hfin : ∀ v : Nat → Value, Reg.gfr (Reg.opsOf Try.f13 1) a0 v (List.range 7) = { tmps := #[s0, s1, (Value.pointer (some ⟨ga, 0, none⟩)), (Value.pointer (some ⟨gb, 0, none⟩)), v 6, v 0, v 1, v 2, v 3, v 4, v 5], defers := [] } := fun v => by rw [ha0]; kernel_rfl
  rw [← ha0]
  have i2 : a0.eval (.tmp 2) = (Value.pointer (some ⟨ga, 0, none⟩)) := by rw [ha0]; rfl
  have i3 : a0.eval (.tmp 3) = (Value.pointer (some ⟨gb, 0, none⟩)) := by rw [ha0]; rfl
  have i4 : a0.eval (.tmp 4) = (Value.bool false) := by rw [ha0]; rfl
  have hsz : a0.tmps.size = 11 := by rw [ha0]; rfl
  clear ha0
  have hn : (Reg.opsOf Try.f13 1).size = 7 := by kernel_rfl
  have h0 : Reg.OpOK Try.prog (Reg.opsOf Try.f13 1) a0 w0 (atmostGR a b m ga gb d) (fun _ _ _ _ => True) 0 := by
    refine Reg.op_ok2 (fun af => { dst := some 5, op := Op.load 24 (Operand.tmp 2), type := 24, pos := "vector.go:40", after := af, guard := none }) #[] (by kernel_rfl) [] (by kernel_rfl) fun af v W hb hd => ?_
    have e2 := (Reg.gfr_eval0 (ops := (Reg.opsOf Try.f13 1)) (a0 := a0) (v := v) (L := []) 2 (by kernel_rfl)).trans i2
    refine ⟨Reg.wanted_none rfl, ?_⟩
    generalize Reg.gfr (Reg.opsOf Try.f13 1) a0 v [] = G at e2 ⊢
    generalize hρ : G.eval = ρ at e2
    have hρ' : G.eval = ρ := hρ
    exact fun K hK => wp_load_row 24 (.tmp 2) rfl ga (by rw [hρ']; exact e2) 24 (vC a) (0, 0) _ (M_ga W hb) Try.underlying24 rfl (vec_size ha) (hK _ _ ⟨Below.refl _ _, rfl⟩)
  have h1 : Reg.OpOK Try.prog (Reg.opsOf Try.f13 1) a0 w0 (atmostGR a b m ga gb d) (fun _ _ _ _ => True) 1 := by
    refine Reg.op_ok2 (fun af => { dst := some 6, op := Op.load 24 (Operand.tmp 3), type := 24, pos := "vector.go:40", after := af, guard := none }) #[] (by kernel_rfl) [] (by kernel_rfl) fun af v W hb hd => ?_
    have e3 := (Reg.gfr_eval0 (ops := (Reg.opsOf Try.f13 1)) (a0 := a0) (v := v) (L := []) 3 (by kernel_rfl)).trans i3
    refine ⟨Reg.wanted_none rfl, ?_⟩
    generalize Reg.gfr (Reg.opsOf Try.f13 1) a0 v [] = G at e3 ⊢
    generalize hρ : G.eval = ρ at e3
    have hρ' : G.eval = ρ := hρ
    exact fun K hK => wp_load_row 24 (.tmp 3) rfl gb (by rw [hρ']; exact e3) 24 (vC b) (0, 0) _ (M_gb W hb) Try.underlying24 rfl (vec_size hb') (hK _ _ ⟨Below.refl _ _, rfl⟩)
  have h2 : Reg.OpOK Try.prog (Reg.opsOf Try.f13 1) a0 w0 (atmostGR a b m ga gb d) (fun _ _ _ _ => True) 2 := by
    refine Reg.op_ok2 (fun af => { dst := some 7, op := Op.buildSlice 43 2 #[(0, Operand.tmp 5), (1, Operand.tmp 6)], type := 43, pos := "vector.go:40", after := af, guard := none }) #[{ on := 0, ground := Ground.data }, { on := 1, ground := Ground.data }] (by kernel_rfl) [0, 1] (by kernel_rfl) fun af v W hb hd => ?_
    have d0 : v 0 = (Value.agg (vC a)) := hd 0 (by decide)
    have d1 : v 1 = (Value.agg (vC b)) := hd 1 (by decide)
    have e5 := (Reg.gfr_eval (ops := (Reg.opsOf Try.f13 1)) (a0 := a0) (v := v) (L := [0, 1]) 5 0 (by kernel_rfl) (by rw [hsz]; omega)).trans d0
    have e6 := (Reg.gfr_eval (ops := (Reg.opsOf Try.f13 1)) (a0 := a0) (v := v) (L := [0, 1]) 6 1 (by kernel_rfl) (by rw [hsz]; omega)).trans d1
    refine ⟨Reg.wanted_none rfl, ?_⟩
    generalize Reg.gfr (Reg.opsOf Try.f13 1) a0 v [0, 1] = G at e5 e6 ⊢
    generalize hρ : G.eval = ρ at e5 e6
    have hρ' : G.eval = ρ := hρ
    exact Reg.go_build 43 24 2 _ rfl Try.underlying43 _ (by rw [hρ']; exact built_vecs [a, b] (by simp [ha, hb']) (by simp) (by simp) _ (by simp [e5, e6])) ⟨(Below.refl _ W).alloc (Nat.le_refl _) _, ⟨_, rfl, heap_alloc_new _ _⟩⟩
  have h3 : Reg.OpOK Try.prog (Reg.opsOf Try.f13 1) a0 w0 (atmostGR a b m ga gb d) (fun _ _ _ _ => True) 3 := by
    refine Reg.op_ok2 (fun af => { dst := some 8, op := Op.call { callee := Callee.value (Operand.func 11), args := #[Operand.tmp 7], argTypes := #[43] }, type := 24, pos := "vector.go:40", after := af, guard := none }) #[{ on := 2, ground := Ground.data }] (by kernel_rfl) [2] (by kernel_rfl) fun af v W hb hd => ?_
    have d2 : (Reg.IsRow 24 (vecs [a, b]).toArray 2) (v 2) W := hd 2 (by decide)
    have e7 := Reg.gfr_eval (ops := (Reg.opsOf Try.f13 1)) (a0 := a0) (v := v) (L := [2]) 7 2 (by kernel_rfl) (by rw [hsz]; omega)
    obtain ⟨gr, hg1, hg2⟩ := d2
    rw [hg1] at e7
    refine ⟨Reg.wanted_none rfl, ?_⟩
    have eF : ∀ f, (Reg.gfr (Reg.opsOf Try.f13 1) a0 v [2]).eval (.func f) = .func (.func f) #[] #[] := fun _ => rfl
    generalize Reg.gfr (Reg.opsOf Try.f13 1) a0 v [2] = G at e7 eF ⊢
    generalize hρ : G.eval = ρ at e7 eF
    have hρ' : G.eval = ρ := hρ
    refine Reg.go_call 11 #[(Value.slice (some ⟨gr, 0, none⟩) 2 2)] (by rw [hρ']; simp [execOp, go_sem, e7, eF]) ((merge2 a b ha hb' W gr hg2).mono fun e w' he => ?_)
    obtain ⟨rfl, hbb⟩ := he
    exact ⟨_, rfl, hbb, (show _ = _ from by rw [m1])⟩
  have h4 : Reg.OpOK Try.prog (Reg.opsOf Try.f13 1) a0 w0 (atmostGR a b m ga gb d) (fun _ _ _ _ => True) 4 := by
    refine Reg.op_ok2 (fun af => { dst := some 9, op := Op.load 24 (Operand.tmp 3), type := 24, pos := "vector.go:40", after := af, guard := none }) #[] (by kernel_rfl) [] (by kernel_rfl) fun af v W hb hd => ?_
    have e3 := (Reg.gfr_eval0 (ops := (Reg.opsOf Try.f13 1)) (a0 := a0) (v := v) (L := []) 3 (by kernel_rfl)).trans i3
    refine ⟨Reg.wanted_none rfl, ?_⟩
    generalize Reg.gfr (Reg.opsOf Try.f13 1) a0 v [] = G at e3 ⊢
    generalize hρ : G.eval = ρ at e3
    have hρ' : G.eval = ρ := hρ
    exact fun K hK => wp_load_row 24 (.tmp 3) rfl gb (by rw [hρ']; exact e3) 24 (vC b) (0, 0) _ (M_gb W hb) Try.underlying24 rfl (vec_size hb') (hK _ _ ⟨Below.refl _ _, rfl⟩)
  have h5 : Reg.OpOK Try.prog (Reg.opsOf Try.f13 1) a0 w0 (atmostGR a b m ga gb d) (fun _ _ _ _ => True) 5 := by
    refine Reg.op_ok2 (fun af => { dst := some 10, op := Op.binOp BinOp.eql 24 (Operand.tmp 8) (Operand.tmp 9) 24, type := 4, pos := "vector.go:40", after := af, guard := none }) #[{ on := 3, ground := Ground.data }, { on := 4, ground := Ground.data }] (by kernel_rfl) [3, 4] (by kernel_rfl) fun af v W hb hd => ?_
    have d3 : v 3 = (Value.agg (vC m)) := hd 3 (by decide)
    have d4 : v 4 = (Value.agg (vC b)) := hd 4 (by decide)
    have e8 := (Reg.gfr_eval (ops := (Reg.opsOf Try.f13 1)) (a0 := a0) (v := v) (L := [3, 4]) 8 3 (by kernel_rfl) (by rw [hsz]; omega)).trans d3
    have e9 := (Reg.gfr_eval (ops := (Reg.opsOf Try.f13 1)) (a0 := a0) (v := v) (L := [3, 4]) 9 4 (by kernel_rfl) (by rw [hsz]; omega)).trans d4
    refine ⟨Reg.wanted_none rfl, ?_⟩
    generalize Reg.gfr (Reg.opsOf Try.f13 1) a0 v [3, 4] = G at e8 e9 ⊢
    generalize hρ : G.eval = ρ at e8 e9
    have hρ' : G.eval = ρ := hρ
    refine Reg.go_run (Value.bool d) W ?_ ?_
    · rw [hρ']; simp [execOp, go_sem, e8, e9, run_eq_vec W m b hm hb', d1]
    · exact ⟨Below.refl _ _, rfl⟩
  have h6 : Reg.OpOK Try.prog (Reg.opsOf Try.f13 1) a0 w0 (atmostGR a b m ga gb d) (fun _ _ _ _ => True) 6 := by
    refine Reg.op_ok2 (fun af => { dst := some 4, op := Op.assign (Operand.tmp 10), type := 4, pos := "vector.go:40", after := af, guard := none }) #[{ on := 5, ground := Ground.data }, { on := 3, ground := Ground.chain }, { on := 0, ground := Ground.phase }, { on := 1, ground := Ground.phase }, { on := 2, ground := Ground.phase }, { on := 3, ground := Ground.phase }, { on := 4, ground := Ground.phase }, { on := 5, ground := Ground.phase }] (by kernel_rfl) [5, 3, 0, 1, 2, 3, 4, 5] (by kernel_rfl) fun af v W hb hd => ?_
    have d5 : v 5 = (Value.bool d) := hd 5 (by decide)
    have e10 := (Reg.gfr_eval (ops := (Reg.opsOf Try.f13 1)) (a0 := a0) (v := v) (L := [5, 3, 0, 1, 2, 3, 4, 5]) 10 5 (by kernel_rfl) (by rw [hsz]; omega)).trans d5
    refine ⟨Reg.wanted_none rfl, ?_⟩
    generalize Reg.gfr (Reg.opsOf Try.f13 1) a0 v [5, 3, 0, 1, 2, 3, 4, 5] = G at e10 ⊢
    generalize hρ : G.eval = ρ at e10
    have hρ' : G.eval = ρ := hρ
    refine Reg.go_run (Value.bool d) W ?_ ?_
    · rw [hρ']; simp [execOp, go_sem, e10]
    · exact ⟨Below.refl _ _, rfl⟩
  refine Reg.region_all (by kernel_rfl) (atmostGR a b m ga gb d) (by rw [hn, hsz]; kernel_rfl) (atmostG_stable a b m ga gb d) (fun i hi => ?_) (fun v w hb hR => ?_)
  · rw [hn] at hi
    match i, List.mem_range.1 hi with
    | 0, _ => exact h0
    | 1, _ => exact h1
    | 2, _ => exact h2
    | 3, _ => exact h3
    | 4, _ => exact h4
    | 5, _ => exact h5
    | 6, _ => exact h6
    | (_ + 7), h => omega
  · rw [hn] at hR ⊢
    have v0 : v 0 = (Value.agg (vC a)) := hR 0 (by decide)
    have v1 : v 1 = (Value.agg (vC b)) := hR 1 (by decide)
    have v3 : v 3 = (Value.agg (vC m)) := hR 3 (by decide)
    have v4 : v 4 = (Value.agg (vC b)) := hR 4 (by decide)
    have v5 : v 5 = (Value.bool d) := hR 5 (by decide)
    have v6 : v 6 = (Value.bool d) := hR 6 (by decide)
    rw [hfin v, v0, v1, v3, v4, v5, v6]
    exact hend w (v 2) hb 
end Go.Proofs.Ytfifbjlmbdgmjaa
