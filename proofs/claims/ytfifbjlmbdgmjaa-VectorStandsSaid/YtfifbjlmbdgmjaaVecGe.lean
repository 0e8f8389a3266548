/- Regions that draw their order: their obligations (printed by regen2.py). -/
import Derived.Test.YtfifbjlmbdgmjaaVecO
import Derived.Test.YtfifbjlmbdgmjaaRegS
namespace Go.Proofs.Ytfifbjlmbdgmjaa
open Go.RowKit
def stands2R (a b c : List Nat) (ga gb gc : Nat) (xn yn zn : Nat) : Nat → Value → World → Prop
  | 0 => fun x_ _ => x_ = (Value.agg (vC a))
  | 1 => fun x_ _ => x_ = (Value.agg (vC b))
  | 2 => fun x_ _ => x_ = (Value.int IntKind.i64 (xn : Int))
  | 3 => fun x_ _ => x_ = (Value.agg (vC b))
  | 4 => fun x_ _ => x_ = (Value.agg (vC a))
  | 5 => fun x_ _ => x_ = (Value.int IntKind.i64 (yn : Int))
  | 6 => fun x_ _ => x_ = (Value.agg (vC b))
  | 7 => fun x_ _ => x_ = (Value.agg (vC c))
  | 8 => fun x_ _ => x_ = (Value.int IntKind.i64 (zn : Int))
  | 9 => fun x_ _ => x_ = (Value.int IntKind.i64 (xn : Int))
  | 10 => fun x_ _ => x_ = (Value.int IntKind.i64 (yn : Int))
  | 11 => fun x_ _ => x_ = (Value.int IntKind.i64 (zn : Int))
  | _ => fun _ _ => True
theorem stands2_stable (a b c : List Nat) (ga gb gc : Nat) (xn yn zn : Nat) : ∀ i_ u_ w_ w_', (stands2R a b c ga gb gc xn yn zn) i_ u_ w_ → Below w_.heap.size w_ w_' → (stands2R a b c ga gb gc xn yn zn) i_ u_ w_' := fun i_ u_ w_ w_' h_ hb_ => by
  match i_, h_ with
  | 0, h_ => exact h_
  | 1, h_ => exact h_
  | 2, h_ => exact h_
  | 3, h_ => exact h_
  | 4, h_ => exact h_
  | 5, h_ => exact h_
  | 6, h_ => exact h_
  | 7, h_ => exact h_
  | 8, h_ => exact h_
  | 9, h_ => exact h_
  | 10, h_ => exact h_
  | 11, h_ => exact h_
  | (_ + 12), _ => trivial
set_option maxHeartbeats 4000000 in
set_option maxRecDepth 20000 in
theorem stands2 (a b c : List Nat) (ga gb gc : Nat) (xn yn zn : Nat) (w0 : World) {s0 s1 s2 s6 s7 s8 s9 s10 s11 s12 s13 s14 s15 s16 s17 s18 s19 s20 s21 s22 s23 s24 s25 s26 s27 s28 s29 s30 s31 s32 s33 s34 s35 s36 s37 s38 s39 s40 s41 s42 s43 s44 s45 s46 s47 s48 s49 s50 s51 s52 s53 s54 s55 s56 s57 s58 s59 s60 s61 s62 s63 s64 s65 s66 s67 s68 s69 s70 s71 s72 s73 s74 s75 s76 s77 s78 s79 s80 s81 s82 s83 s84 s85 s86 s87 s88 s89 s90 s91 s92 s93 s94 s95 s96 s97 s98 s99 s100 : Value}
    (ha : a.length = 16) (hb' : b.length = 16) (hc : c.length = 16) (f1 : cmpV a b = (xn : Int)) (f2 : cmpV b a = (yn : Int)) (f3 : cmpV b c = (zn : Int))
    (M_ga : ∀ W, Below w0.heap.size w0 W → W.heap[ga]? = some (.cells (vC a) 24 (0, 0)))
    (M_gb : ∀ W, Below w0.heap.size w0 W → W.heap[gb]? = some (.cells (vC b) 24 (0, 0)))
    (M_gc : ∀ W, Below w0.heap.size w0 W → W.heap[gc]? = some (.cells (vC c) 24 (0, 0)))
    {Q : Exit → Act → World → Prop}
    (hend : ∀ (w : World), Below w0.heap.size w0 w → Q .normal { tmps := #[s0, s1, s2, (Value.pointer (some ⟨ga, 0, none⟩)), (Value.pointer (some ⟨gb, 0, none⟩)), (Value.pointer (some ⟨gc, 0, none⟩)), s6, s7, (Value.int IntKind.i64 (xn : Int)), (Value.int IntKind.i64 (yn : Int)), (Value.int IntKind.i64 (zn : Int)), s11, s12, (Value.agg (vC a)), (Value.agg (vC b)), (Value.int IntKind.i64 (xn : Int)), (Value.agg (vC b)), (Value.agg (vC a)), (Value.int IntKind.i64 (yn : Int)), (Value.agg (vC b)), (Value.agg (vC c)), (Value.int IntKind.i64 (zn : Int)), s22, s23, s24, s25, s26, s27, s28, s29, s30, s31, s32, s33, s34, s35, s36, s37, s38, s39, s40, s41, s42, s43, s44, s45, s46, s47, s48, s49, s50, s51, s52, s53, s54, s55, s56, s57, s58, s59, s60, s61, s62, s63, s64, s65, s66, s67, s68, s69, s70, s71, s72, s73, s74, s75, s76, s77, s78, s79, s80, s81, s82, s83, s84, s85, s86, s87, s88, s89, s90, s91, s92, s93, s94, s95, s96, s97, s98, s99, s100], defers := [] } w) :
    (Code.region 2 (Reg.opsOf Try.f4 2) true).wp Try.prog Q { tmps := #[s0, s1, s2, (Value.pointer (some ⟨ga, 0, none⟩)), (Value.pointer (some ⟨gb, 0, none⟩)), (Value.pointer (some ⟨gc, 0, none⟩)), s6, s7, s8, s9, s10, s11, s12, s13, s14, s15, s16, s17, s18, s19, s20, s21, s22, s23, s24, s25, s26, s27, s28, s29, s30, s31, s32, s33, s34, s35, s36, s37, s38, s39, s40, s41, s42, s43, s44, s45, s46, s47, s48, s49, s50, s51, s52, s53, s54, s55, s56, s57, s58, s59, s60, s61, s62, s63, s64, s65, s66, s67, s68, s69, s70, s71, s72, s73, s74, s75, s76, s77, s78, s79, s80, s81, s82, s83, s84, s85, s86, s87, s88, s89, s90, s91, s92, s93, s94, s95, s96, s97, s98, s99, s100], defers := [] } w0 := by
  obtain ⟨a0, ha0⟩ : ∃ a0 : Act, a0 = { tmps := #[s0, s1, s2, (Value.pointer (some ⟨ga, 0, none⟩)), (Value.pointer (some ⟨gb, 0, none⟩)), (Value.pointer (some ⟨gc, 0, none⟩)), s6, s7, s8, s9, s10, s11, s12, s13, s14, s15, s16, s17, s18, s19, s20, s21, s22, s23, s24, s25, s26, s27, s28, s29, s30, s31, s32, s33, s34, s35, s36, s37, s38, s39, s40, s41, s42, s43, s44, s45, s46, s47, s48, s49, s50, s51, s52, s53, s54, s55, s56, s57, s58, s59, s60, s61, s62, s63, s64, s65, s66, s67, s68, s69, s70, s71, s72, s73, s74, s75, s76, s77, s78, s79, s80, s81, s82, s83, s84, s85, s86, s87, s88, s89, s90, s91, s92, s93, s94, s95, s96, s97, s98, s99, s100], defers := [] } := ⟨_, rfl⟩
  have hfin : ∀ v : Nat → Value, Reg.gfr (Reg.opsOf Try.f4 2) a0 v (List.range 12) = { tmps := #[s0, s1, s2, (Value.pointer (some ⟨ga, 0, none⟩)), (Value.pointer (some ⟨gb, 0, none⟩)), (Value.pointer (some ⟨gc, 0, none⟩)), s6, s7, v 9, v 10, v 11, s11, s12, v 0, v 1, v 2, v 3, v 4, v 5, v 6, v 7, v 8, s22, s23, s24, s25, s26, s27, s28, s29, s30, s31, s32, s33, s34, s35, s36, s37, s38, s39, s40, s41, s42, s43, s44, s45, s46, s47, s48, s49, s50, s51, s52, s53, s54, s55, s56, s57, s58, s59, s60, s61, s62, s63, s64, s65, s66, s67, s68, s69, s70, s71, s72, s73, s74, s75, s76, s77, s78, s79, s80, s81, s82, s83, s84, s85, s86, s87, s88, s89, s90, s91, s92, s93, s94, s95, s96, s97, s98, s99, s100], defers := [] } := fun v => by rw [ha0]; kernel_rfl
  rw [← ha0]
  have i3 : a0.eval (.tmp 3) = (Value.pointer (some ⟨ga, 0, none⟩)) := by rw [ha0]; rfl
  have i4 : a0.eval (.tmp 4) = (Value.pointer (some ⟨gb, 0, none⟩)) := by rw [ha0]; rfl
  have i5 : a0.eval (.tmp 5) = (Value.pointer (some ⟨gc, 0, none⟩)) := by rw [ha0]; rfl
  have hsz : a0.tmps.size = 101 := by rw [ha0]; rfl
  clear ha0
  have hn : (Reg.opsOf Try.f4 2).size = 12 := by kernel_rfl
  have h0 : Reg.OpOK Try.prog (Reg.opsOf Try.f4 2) a0 w0 (stands2R a b c ga gb gc xn yn zn) (fun _ _ _ _ => True) 0 := by
    refine Reg.op_ok2 (fun af => { dst := some 13, op := Op.load 24 (Operand.tmp 3), type := 24, pos := "outright.go:112", after := af, guard := none }) #[] (by kernel_rfl) [] (by kernel_rfl) fun af v W hb hd => ?_
    have e3 := (Reg.gfr_eval0 (ops := (Reg.opsOf Try.f4 2)) (a0 := a0) (v := v) (L := []) 3 (by kernel_rfl)).trans i3
    refine ⟨Reg.wanted_none rfl, ?_⟩
    generalize Reg.gfr (Reg.opsOf Try.f4 2) a0 v [] = G at e3 ⊢
    generalize hρ : G.eval = ρ at e3
    have hρ' : G.eval = ρ := hρ
    exact fun K hK => wp_load_row 24 (.tmp 3) rfl ga (by rw [hρ']; exact e3) 24 (vC a) (0, 0) _ (M_ga W hb) Try.underlying24 rfl (vec_size ha) (hK _ _ ⟨Below.refl _ _, rfl⟩)
  have h1 : Reg.OpOK Try.prog (Reg.opsOf Try.f4 2) a0 w0 (stands2R a b c ga gb gc xn yn zn) (fun _ _ _ _ => True) 1 := by
    refine Reg.op_ok2 (fun af => { dst := some 14, op := Op.load 24 (Operand.tmp 4), type := 24, pos := "outright.go:112", after := af, guard := none }) #[] (by kernel_rfl) [] (by kernel_rfl) fun af v W hb hd => ?_
    have e4 := (Reg.gfr_eval0 (ops := (Reg.opsOf Try.f4 2)) (a0 := a0) (v := v) (L := []) 4 (by kernel_rfl)).trans i4
    refine ⟨Reg.wanted_none rfl, ?_⟩
    generalize Reg.gfr (Reg.opsOf Try.f4 2) a0 v [] = G at e4 ⊢
    generalize hρ : G.eval = ρ at e4
    have hρ' : G.eval = ρ := hρ
    exact fun K hK => wp_load_row 24 (.tmp 4) rfl gb (by rw [hρ']; exact e4) 24 (vC b) (0, 0) _ (M_gb W hb) Try.underlying24 rfl (vec_size hb') (hK _ _ ⟨Below.refl _ _, rfl⟩)
  have h2 : Reg.OpOK Try.prog (Reg.opsOf Try.f4 2) a0 w0 (stands2R a b c ga gb gc xn yn zn) (fun _ _ _ _ => True) 2 := by
    refine Reg.op_ok2 (fun af => { dst := some 15, op := Op.call { callee := Callee.value (Operand.func 14), args := #[Operand.tmp 13, Operand.tmp 14], argTypes := #[24, 24] }, type := 3, pos := "outright.go:112", after := af, guard := none }) #[{ on := 0, ground := Ground.data }, { on := 1, ground := Ground.data }] (by kernel_rfl) [0, 1] (by kernel_rfl) fun af v W hb hd => ?_
    have d0 : v 0 = (Value.agg (vC a)) := hd 0 (by decide)
    have d1 : v 1 = (Value.agg (vC b)) := hd 1 (by decide)
    have e13 := (Reg.gfr_eval (ops := (Reg.opsOf Try.f4 2)) (a0 := a0) (v := v) (L := [0, 1]) 13 0 (by kernel_rfl) (by rw [hsz]; omega)).trans d0
    have e14 := (Reg.gfr_eval (ops := (Reg.opsOf Try.f4 2)) (a0 := a0) (v := v) (L := [0, 1]) 14 1 (by kernel_rfl) (by rw [hsz]; omega)).trans d1
    refine ⟨Reg.wanted_none rfl, ?_⟩
    have eF : ∀ f, (Reg.gfr (Reg.opsOf Try.f4 2) a0 v [0, 1]).eval (.func f) = .func (.func f) #[] #[] := fun _ => rfl
    generalize Reg.gfr (Reg.opsOf Try.f4 2) a0 v [0, 1] = G at e13 e14 eF ⊢
    generalize hρ : G.eval = ρ at e13 e14 eF
    have hρ' : G.eval = ρ := hρ
    refine Reg.go_call 14 #[(Value.agg (vC a)), (Value.agg (vC b))] (by rw [hρ']; simp [execOp, go_sem, e13, e14, eF]) ((compare_any a b ha hb' W).mono fun e w' he => ?_)
    obtain ⟨rfl, hbb⟩ := he
    exact ⟨_, rfl, hbb, (show _ = _ from by rw [f1])⟩
  have h3 : Reg.OpOK Try.prog (Reg.opsOf Try.f4 2) a0 w0 (stands2R a b c ga gb gc xn yn zn) (fun _ _ _ _ => True) 3 := by
    refine Reg.op_ok2 (fun af => { dst := some 16, op := Op.load 24 (Operand.tmp 4), type := 24, pos := "outright.go:112", after := af, guard := none }) #[] (by kernel_rfl) [] (by kernel_rfl) fun af v W hb hd => ?_
    have e4 := (Reg.gfr_eval0 (ops := (Reg.opsOf Try.f4 2)) (a0 := a0) (v := v) (L := []) 4 (by kernel_rfl)).trans i4
    refine ⟨Reg.wanted_none rfl, ?_⟩
    generalize Reg.gfr (Reg.opsOf Try.f4 2) a0 v [] = G at e4 ⊢
    generalize hρ : G.eval = ρ at e4
    have hρ' : G.eval = ρ := hρ
    exact fun K hK => wp_load_row 24 (.tmp 4) rfl gb (by rw [hρ']; exact e4) 24 (vC b) (0, 0) _ (M_gb W hb) Try.underlying24 rfl (vec_size hb') (hK _ _ ⟨Below.refl _ _, rfl⟩)
  have h4 : Reg.OpOK Try.prog (Reg.opsOf Try.f4 2) a0 w0 (stands2R a b c ga gb gc xn yn zn) (fun _ _ _ _ => True) 4 := by
    refine Reg.op_ok2 (fun af => { dst := some 17, op := Op.load 24 (Operand.tmp 3), type := 24, pos := "outright.go:112", after := af, guard := none }) #[] (by kernel_rfl) [] (by kernel_rfl) fun af v W hb hd => ?_
    have e3 := (Reg.gfr_eval0 (ops := (Reg.opsOf Try.f4 2)) (a0 := a0) (v := v) (L := []) 3 (by kernel_rfl)).trans i3
    refine ⟨Reg.wanted_none rfl, ?_⟩
    generalize Reg.gfr (Reg.opsOf Try.f4 2) a0 v [] = G at e3 ⊢
    generalize hρ : G.eval = ρ at e3
    have hρ' : G.eval = ρ := hρ
    exact fun K hK => wp_load_row 24 (.tmp 3) rfl ga (by rw [hρ']; exact e3) 24 (vC a) (0, 0) _ (M_ga W hb) Try.underlying24 rfl (vec_size ha) (hK _ _ ⟨Below.refl _ _, rfl⟩)
  have h5 : Reg.OpOK Try.prog (Reg.opsOf Try.f4 2) a0 w0 (stands2R a b c ga gb gc xn yn zn) (fun _ _ _ _ => True) 5 := by
    refine Reg.op_ok2 (fun af => { dst := some 18, op := Op.call { callee := Callee.value (Operand.func 14), args := #[Operand.tmp 16, Operand.tmp 17], argTypes := #[24, 24] }, type := 3, pos := "outright.go:112", after := af, guard := none }) #[{ on := 3, ground := Ground.data }, { on := 4, ground := Ground.data }, { on := 2, ground := Ground.chain }] (by kernel_rfl) [3, 4, 2] (by kernel_rfl) fun af v W hb hd => ?_
    have d3 : v 3 = (Value.agg (vC b)) := hd 3 (by decide)
    have d4 : v 4 = (Value.agg (vC a)) := hd 4 (by decide)
    have e16 := (Reg.gfr_eval (ops := (Reg.opsOf Try.f4 2)) (a0 := a0) (v := v) (L := [3, 4, 2]) 16 3 (by kernel_rfl) (by rw [hsz]; omega)).trans d3
    have e17 := (Reg.gfr_eval (ops := (Reg.opsOf Try.f4 2)) (a0 := a0) (v := v) (L := [3, 4, 2]) 17 4 (by kernel_rfl) (by rw [hsz]; omega)).trans d4
    refine ⟨Reg.wanted_none rfl, ?_⟩
    have eF : ∀ f, (Reg.gfr (Reg.opsOf Try.f4 2) a0 v [3, 4, 2]).eval (.func f) = .func (.func f) #[] #[] := fun _ => rfl
    generalize Reg.gfr (Reg.opsOf Try.f4 2) a0 v [3, 4, 2] = G at e16 e17 eF ⊢
    generalize hρ : G.eval = ρ at e16 e17 eF
    have hρ' : G.eval = ρ := hρ
    refine Reg.go_call 14 #[(Value.agg (vC b)), (Value.agg (vC a))] (by rw [hρ']; simp [execOp, go_sem, e16, e17, eF]) ((compare_any b a hb' ha W).mono fun e w' he => ?_)
    obtain ⟨rfl, hbb⟩ := he
    exact ⟨_, rfl, hbb, (show _ = _ from by rw [f2])⟩
  have h6 : Reg.OpOK Try.prog (Reg.opsOf Try.f4 2) a0 w0 (stands2R a b c ga gb gc xn yn zn) (fun _ _ _ _ => True) 6 := by
    refine Reg.op_ok2 (fun af => { dst := some 19, op := Op.load 24 (Operand.tmp 4), type := 24, pos := "outright.go:112", after := af, guard := none }) #[] (by kernel_rfl) [] (by kernel_rfl) fun af v W hb hd => ?_
    have e4 := (Reg.gfr_eval0 (ops := (Reg.opsOf Try.f4 2)) (a0 := a0) (v := v) (L := []) 4 (by kernel_rfl)).trans i4
    refine ⟨Reg.wanted_none rfl, ?_⟩
    generalize Reg.gfr (Reg.opsOf Try.f4 2) a0 v [] = G at e4 ⊢
    generalize hρ : G.eval = ρ at e4
    have hρ' : G.eval = ρ := hρ
    exact fun K hK => wp_load_row 24 (.tmp 4) rfl gb (by rw [hρ']; exact e4) 24 (vC b) (0, 0) _ (M_gb W hb) Try.underlying24 rfl (vec_size hb') (hK _ _ ⟨Below.refl _ _, rfl⟩)
  have h7 : Reg.OpOK Try.prog (Reg.opsOf Try.f4 2) a0 w0 (stands2R a b c ga gb gc xn yn zn) (fun _ _ _ _ => True) 7 := by
    refine Reg.op_ok2 (fun af => { dst := some 20, op := Op.load 24 (Operand.tmp 5), type := 24, pos := "outright.go:112", after := af, guard := none }) #[] (by kernel_rfl) [] (by kernel_rfl) fun af v W hb hd => ?_
    have e5 := (Reg.gfr_eval0 (ops := (Reg.opsOf Try.f4 2)) (a0 := a0) (v := v) (L := []) 5 (by kernel_rfl)).trans i5
    refine ⟨Reg.wanted_none rfl, ?_⟩
    generalize Reg.gfr (Reg.opsOf Try.f4 2) a0 v [] = G at e5 ⊢
    generalize hρ : G.eval = ρ at e5
    have hρ' : G.eval = ρ := hρ
    exact fun K hK => wp_load_row 24 (.tmp 5) rfl gc (by rw [hρ']; exact e5) 24 (vC c) (0, 0) _ (M_gc W hb) Try.underlying24 rfl (vec_size hc) (hK _ _ ⟨Below.refl _ _, rfl⟩)
  have h8 : Reg.OpOK Try.prog (Reg.opsOf Try.f4 2) a0 w0 (stands2R a b c ga gb gc xn yn zn) (fun _ _ _ _ => True) 8 := by
    refine Reg.op_ok2 (fun af => { dst := some 21, op := Op.call { callee := Callee.value (Operand.func 14), args := #[Operand.tmp 19, Operand.tmp 20], argTypes := #[24, 24] }, type := 3, pos := "outright.go:112", after := af, guard := none }) #[{ on := 6, ground := Ground.data }, { on := 7, ground := Ground.data }, { on := 5, ground := Ground.chain }] (by kernel_rfl) [6, 7, 5] (by kernel_rfl) fun af v W hb hd => ?_
    have d6 : v 6 = (Value.agg (vC b)) := hd 6 (by decide)
    have d7 : v 7 = (Value.agg (vC c)) := hd 7 (by decide)
    have e19 := (Reg.gfr_eval (ops := (Reg.opsOf Try.f4 2)) (a0 := a0) (v := v) (L := [6, 7, 5]) 19 6 (by kernel_rfl) (by rw [hsz]; omega)).trans d6
    have e20 := (Reg.gfr_eval (ops := (Reg.opsOf Try.f4 2)) (a0 := a0) (v := v) (L := [6, 7, 5]) 20 7 (by kernel_rfl) (by rw [hsz]; omega)).trans d7
    refine ⟨Reg.wanted_none rfl, ?_⟩
    have eF : ∀ f, (Reg.gfr (Reg.opsOf Try.f4 2) a0 v [6, 7, 5]).eval (.func f) = .func (.func f) #[] #[] := fun _ => rfl
    generalize Reg.gfr (Reg.opsOf Try.f4 2) a0 v [6, 7, 5] = G at e19 e20 eF ⊢
    generalize hρ : G.eval = ρ at e19 e20 eF
    have hρ' : G.eval = ρ := hρ
    refine Reg.go_call 14 #[(Value.agg (vC b)), (Value.agg (vC c))] (by rw [hρ']; simp [execOp, go_sem, e19, e20, eF]) ((compare_any b c hb' hc W).mono fun e w' he => ?_)
    obtain ⟨rfl, hbb⟩ := he
    exact ⟨_, rfl, hbb, (show _ = _ from by rw [f3])⟩
  have h9 : Reg.OpOK Try.prog (Reg.opsOf Try.f4 2) a0 w0 (stands2R a b c ga gb gc xn yn zn) (fun _ _ _ _ => True) 9 := by
    refine Reg.op_ok2 (fun af => { dst := some 8, op := Op.assign (Operand.tmp 15), type := 3, pos := "outright.go:112", after := af, guard := none }) #[{ on := 2, ground := Ground.data }, { on := 8, ground := Ground.chain }, { on := 0, ground := Ground.phase }, { on := 1, ground := Ground.phase }, { on := 2, ground := Ground.phase }, { on := 3, ground := Ground.textOnly Departure.lateStores }, { on := 4, ground := Ground.textOnly Departure.lateStores }, { on := 5, ground := Ground.textOnly Departure.lateStoresUnsure }, { on := 6, ground := Ground.textOnly Departure.lateStores }, { on := 7, ground := Ground.textOnly Departure.lateStores }, { on := 8, ground := Ground.textOnly Departure.lateStoresUnsure }] (by kernel_rfl) [2, 8, 0, 1, 2] (by kernel_rfl) fun af v W hb hd => ?_
    have d2 : v 2 = (Value.int IntKind.i64 (xn : Int)) := hd 2 (by decide)
    have e15 := (Reg.gfr_eval (ops := (Reg.opsOf Try.f4 2)) (a0 := a0) (v := v) (L := [2, 8, 0, 1, 2]) 15 2 (by kernel_rfl) (by rw [hsz]; omega)).trans d2
    refine ⟨Reg.wanted_none rfl, ?_⟩
    generalize Reg.gfr (Reg.opsOf Try.f4 2) a0 v [2, 8, 0, 1, 2] = G at e15 ⊢
    generalize hρ : G.eval = ρ at e15
    have hρ' : G.eval = ρ := hρ
    refine Reg.go_run (Value.int IntKind.i64 (xn : Int)) W ?_ ?_
    · rw [hρ']; simp [execOp, go_sem, e15]
    · exact ⟨Below.refl _ _, rfl⟩
  have h10 : Reg.OpOK Try.prog (Reg.opsOf Try.f4 2) a0 w0 (stands2R a b c ga gb gc xn yn zn) (fun _ _ _ _ => True) 10 := by
    refine Reg.op_ok2 (fun af => { dst := some 9, op := Op.assign (Operand.tmp 18), type := 3, pos := "outright.go:112", after := af, guard := none }) #[{ on := 5, ground := Ground.data }, { on := 9, ground := Ground.chain }, { on := 0, ground := Ground.phase }, { on := 1, ground := Ground.phase }, { on := 2, ground := Ground.phase }, { on := 3, ground := Ground.phase }, { on := 4, ground := Ground.phase }, { on := 5, ground := Ground.phase }, { on := 6, ground := Ground.textOnly Departure.lateStores }, { on := 7, ground := Ground.textOnly Departure.lateStores }, { on := 8, ground := Ground.textOnly Departure.lateStoresUnsure }, { on := 9, ground := Ground.phase }] (by kernel_rfl) [5, 9, 0, 1, 2, 3, 4, 5, 9] (by kernel_rfl) fun af v W hb hd => ?_
    have d5 : v 5 = (Value.int IntKind.i64 (yn : Int)) := hd 5 (by decide)
    have e18 := (Reg.gfr_eval (ops := (Reg.opsOf Try.f4 2)) (a0 := a0) (v := v) (L := [5, 9, 0, 1, 2, 3, 4, 5, 9]) 18 5 (by kernel_rfl) (by rw [hsz]; omega)).trans d5
    refine ⟨Reg.wanted_none rfl, ?_⟩
    generalize Reg.gfr (Reg.opsOf Try.f4 2) a0 v [5, 9, 0, 1, 2, 3, 4, 5, 9] = G at e18 ⊢
    generalize hρ : G.eval = ρ at e18
    have hρ' : G.eval = ρ := hρ
    refine Reg.go_run (Value.int IntKind.i64 (yn : Int)) W ?_ ?_
    · rw [hρ']; simp [execOp, go_sem, e18]
    · exact ⟨Below.refl _ _, rfl⟩
  have h11 : Reg.OpOK Try.prog (Reg.opsOf Try.f4 2) a0 w0 (stands2R a b c ga gb gc xn yn zn) (fun _ _ _ _ => True) 11 := by
    refine Reg.op_ok2 (fun af => { dst := some 10, op := Op.assign (Operand.tmp 21), type := 3, pos := "outright.go:112", after := af, guard := none }) #[{ on := 8, ground := Ground.data }, { on := 10, ground := Ground.chain }, { on := 0, ground := Ground.phase }, { on := 1, ground := Ground.phase }, { on := 2, ground := Ground.phase }, { on := 3, ground := Ground.phase }, { on := 4, ground := Ground.phase }, { on := 5, ground := Ground.phase }, { on := 6, ground := Ground.phase }, { on := 7, ground := Ground.phase }, { on := 8, ground := Ground.phase }, { on := 9, ground := Ground.phase }, { on := 10, ground := Ground.phase }] (by kernel_rfl) [8, 10, 0, 1, 2, 3, 4, 5, 6, 7, 8, 9, 10] (by kernel_rfl) fun af v W hb hd => ?_
    have d8 : v 8 = (Value.int IntKind.i64 (zn : Int)) := hd 8 (by decide)
    have e21 := (Reg.gfr_eval (ops := (Reg.opsOf Try.f4 2)) (a0 := a0) (v := v) (L := [8, 10, 0, 1, 2, 3, 4, 5, 6, 7, 8, 9, 10]) 21 8 (by kernel_rfl) (by rw [hsz]; omega)).trans d8
    refine ⟨Reg.wanted_none rfl, ?_⟩
    generalize Reg.gfr (Reg.opsOf Try.f4 2) a0 v [8, 10, 0, 1, 2, 3, 4, 5, 6, 7, 8, 9, 10] = G at e21 ⊢
    generalize hρ : G.eval = ρ at e21
    have hρ' : G.eval = ρ := hρ
    refine Reg.go_run (Value.int IntKind.i64 (zn : Int)) W ?_ ?_
    · rw [hρ']; simp [execOp, go_sem, e21]
    · exact ⟨Below.refl _ _, rfl⟩
  refine Reg.region_all (by kernel_rfl) (stands2R a b c ga gb gc xn yn zn) (by rw [hn, hsz]; kernel_rfl) (stands2_stable a b c ga gb gc xn yn zn) (fun i hi => ?_) (fun v w hb hR => ?_)
  · rw [hn] at hi
    match i, List.mem_range.1 hi with
    | 0, _ => exact h0
    | 1, _ => exact h1
    | 2, _ => exact h2
    | 3, _ => exact h3
    | 4, _ => exact h4
    | 5, _ => exact h5
    | 6, _ => exact h6
    | 7, _ => exact h7
    | 8, _ => exact h8
    | 9, _ => exact h9
    | 10, _ => exact h10
    | 11, _ => exact h11
    | (_ + 12), h => omega
  · rw [hn] at hR ⊢
    have v0 : v 0 = (Value.agg (vC a)) := hR 0 (by decide)
    have v1 : v 1 = (Value.agg (vC b)) := hR 1 (by decide)
    have v2 : v 2 = (Value.int IntKind.i64 (xn : Int)) := hR 2 (by decide)
    have v3 : v 3 = (Value.agg (vC b)) := hR 3 (by decide)
    have v4 : v 4 = (Value.agg (vC a)) := hR 4 (by decide)
    have v5 : v 5 = (Value.int IntKind.i64 (yn : Int)) := hR 5 (by decide)
    have v6 : v 6 = (Value.agg (vC b)) := hR 6 (by decide)
    have v7 : v 7 = (Value.agg (vC c)) := hR 7 (by decide)
    have v8 : v 8 = (Value.int IntKind.i64 (zn : Int)) := hR 8 (by decide)
    have v9 : v 9 = (Value.int IntKind.i64 (xn : Int)) := hR 9 (by decide)
    have v10 : v 10 = (Value.int IntKind.i64 (yn : Int)) := hR 10 (by decide)
    have v11 : v 11 = (Value.int IntKind.i64 (zn : Int)) := hR 11 (by decide)
    rw [hfin v, v0, v1, v2, v3, v4, v5, v6, v7, v8, v9, v10, v11]
    exact hend w  hb 
def stands4R (a b : List Nat) (ga gb gt : Nat) (xn yn n : Nat) (d d2 : Bool) : Nat → Value → World → Prop
  | 0 => fun x_ _ => x_ = (Value.int IntKind.i64 (xn : Int))
  | 1 => fun x_ _ => x_ = (Value.bool false)
  | 2 => fun x_ _ => x_ = (Value.bool false)
  | 3 => fun x_ _ => x_ = (Value.int IntKind.i64 (xn : Int))
  | 4 => fun x_ _ => x_ = (Value.bool false)
  | 5 => fun x_ _ => x_ = (Value.bool false)
  | 6 => fun x_ _ => x_ = (Value.bool false)
  | 7 => fun x_ _ => x_ = (Value.int IntKind.i64 (yn : Int))
  | 8 => fun x_ _ => x_ = (Value.slice (some ⟨gt, 0, none⟩) 4 4)
  | 9 => fun x_ _ => x_ = (Value.int IntKind.i64 (xn : Int))
  | 10 => fun x_ _ => x_ = (Value.pointer (some ⟨gt, xn, none⟩))
  | 11 => fun x_ _ => x_ = (Value.int IntKind.i64 (yn : Int))
  | 12 => fun x_ _ => x_ = (Value.bool false)
  | 13 => fun x_ _ => x_ = (Value.bool false)
  | 14 => fun x_ _ => x_ = (Value.bool false)
  | 15 => fun x_ _ => x_ = (Value.int IntKind.i64 (xn : Int))
  | 16 => fun x_ _ => x_ = (Value.bool d)
  | 17 => fun x_ _ => x_ = (Value.agg (vC a))
  | 18 => fun x_ _ => x_ = (Value.agg (vC b))
  | 19 => fun x_ _ => x_ = (Value.bool d)
  | 20 => fun x_ _ => x_ = (Value.bool false)
  | 21 => fun x_ _ => x_ = (Value.bool false)
  | 22 => fun x_ _ => x_ = (Value.bool false)
  | 23 => fun x_ _ => x_ = (Value.agg (vC a))
  | 24 => fun x_ _ => x_ = (Value.agg (vC b))
  | 25 => fun x_ _ => x_ = (Value.int IntKind.u64 (n : Int))
  | 26 => fun x_ _ => x_ = (Value.bool d2)
  | 27 => fun x_ _ => x_ = (Value.agg (vC b))
  | 28 => fun x_ _ => x_ = (Value.agg (vC a))
  | 29 => fun x_ _ => x_ = (Value.bool d2)
  | 30 => fun x_ _ => x_ = (Value.bool false)
  | 31 => fun x_ _ => x_ = (Value.bool false)
  | _ => fun _ _ => True
theorem stands4_stable (a b : List Nat) (ga gb gt : Nat) (xn yn n : Nat) (d d2 : Bool) : ∀ i_ u_ w_ w_', (stands4R a b ga gb gt xn yn n d d2) i_ u_ w_ → Below w_.heap.size w_ w_' → (stands4R a b ga gb gt xn yn n d d2) i_ u_ w_' := fun i_ u_ w_ w_' h_ hb_ => by
  match i_, h_ with
  | 0, h_ => exact h_
  | 1, h_ => exact h_
  | 2, h_ => exact h_
  | 3, h_ => exact h_
  | 4, h_ => exact h_
  | 5, h_ => exact h_
  | 6, h_ => exact h_
  | 7, h_ => exact h_
  | 8, h_ => exact h_
  | 9, h_ => exact h_
  | 10, h_ => exact h_
  | 11, h_ => exact h_
  | 12, h_ => exact h_
  | 13, h_ => exact h_
  | 14, h_ => exact h_
  | 15, h_ => exact h_
  | 16, h_ => exact h_
  | 17, h_ => exact h_
  | 18, h_ => exact h_
  | 19, h_ => exact h_
  | 20, h_ => exact h_
  | 21, h_ => exact h_
  | 22, h_ => exact h_
  | 23, h_ => exact h_
  | 24, h_ => exact h_
  | 25, h_ => exact h_
  | 26, h_ => exact h_
  | 27, h_ => exact h_
  | 28, h_ => exact h_
  | 29, h_ => exact h_
  | 30, h_ => exact h_
  | 31, h_ => exact h_
  | (_ + 32), _ => trivial
set_option maxHeartbeats 4000000 in
set_option maxRecDepth 20000 in
theorem stands4 (a b : List Nat) (ga gb gt : Nat) (xn yn n : Nat) (d d2 : Bool) (w0 : World) {s0 s1 s2 s5 s6 s7 s10 s12 s13 s14 s15 s16 s17 s18 s19 s20 s21 s22 s23 s24 s25 s26 s27 s28 s29 s30 s31 s32 s33 s34 s35 s36 s37 s38 s39 s40 s41 s42 s43 s44 s45 s46 s47 s48 s49 s50 s51 s52 s53 s54 s55 s56 s57 s58 s59 s60 s61 s62 s63 s64 s65 s66 s67 s68 s69 s70 s71 s72 s73 s74 s75 s76 s77 s78 s79 s80 s81 s82 s83 s84 s85 s86 s87 s88 s89 s90 s91 s92 s93 s94 s95 s96 s97 s98 s99 s100 : Value}
    (ha : a.length = 16) (hb' : b.length = 16) (sa : small a) (sb : small b) (k1 : ((xn : Int) < 0) = False) (k2 : ((xn : Int) > 3) = False) (k3 : (xn : Int) < 4) (k4 : (0 : Int) ≤ xn) (f0 : ((xn : Int) == 0) = d) (f1 : decide (a = b) = d) (f2 : lackV a b = n) (f3 : ((n : Int) == 0) = d2) (f4 : decide (maxV b a = a) = d2)
    (M_t : ∀ W, Below w0.heap.size w0 W → W.cell? ⟨gt, xn, none⟩ = some (.int .i64 (yn : Int)))
    (M_ga : ∀ W, Below w0.heap.size w0 W → W.heap[ga]? = some (.cells (vC a) 24 (0, 0)))
    (M_gb : ∀ W, Below w0.heap.size w0 W → W.heap[gb]? = some (.cells (vC b) 24 (0, 0)))
    {Q : Exit → Act → World → Prop}
    (hend : ∀ (w : World), Below w0.heap.size w0 w → Q .normal { tmps := #[s0, s1, s2, (Value.pointer (some ⟨ga, 0, none⟩)), (Value.pointer (some ⟨gb, 0, none⟩)), s5, s6, s7, (Value.int IntKind.i64 (xn : Int)), (Value.int IntKind.i64 (yn : Int)), s10, (Value.slice (some ⟨gt, 0, none⟩) 4 4), s12, s13, s14, s15, s16, s17, s18, s19, s20, s21, s22, (Value.int IntKind.i64 (xn : Int)), (Value.bool false), (Value.bool false), (Value.int IntKind.i64 (xn : Int)), (Value.bool false), (Value.bool false), (Value.bool false), (Value.int IntKind.i64 (yn : Int)), (Value.slice (some ⟨gt, 0, none⟩) 4 4), (Value.int IntKind.i64 (xn : Int)), (Value.pointer (some ⟨gt, xn, none⟩)), (Value.int IntKind.i64 (yn : Int)), (Value.bool false), (Value.bool false), (Value.bool false), (Value.int IntKind.i64 (xn : Int)), (Value.bool d), (Value.agg (vC a)), (Value.agg (vC b)), (Value.bool d), (Value.bool false), (Value.bool false), (Value.bool false), (Value.agg (vC a)), (Value.agg (vC b)), (Value.int IntKind.u64 (n : Int)), (Value.bool d2), (Value.agg (vC b)), (Value.agg (vC a)), (Value.bool d2), (Value.bool false), (Value.bool false), s55, s56, s57, s58, s59, s60, s61, s62, s63, s64, s65, s66, s67, s68, s69, s70, s71, s72, s73, s74, s75, s76, s77, s78, s79, s80, s81, s82, s83, s84, s85, s86, s87, s88, s89, s90, s91, s92, s93, s94, s95, s96, s97, s98, s99, s100], defers := [] } w) :
    (Code.region 4 (Reg.opsOf Try.f4 4) true).wp Try.prog Q { tmps := #[s0, s1, s2, (Value.pointer (some ⟨ga, 0, none⟩)), (Value.pointer (some ⟨gb, 0, none⟩)), s5, s6, s7, (Value.int IntKind.i64 (xn : Int)), (Value.int IntKind.i64 (yn : Int)), s10, (Value.slice (some ⟨gt, 0, none⟩) 4 4), s12, s13, s14, s15, s16, s17, s18, s19, s20, s21, s22, s23, s24, s25, s26, s27, s28, s29, s30, s31, s32, s33, s34, s35, s36, s37, s38, s39, s40, s41, s42, s43, s44, s45, s46, s47, s48, s49, s50, s51, s52, s53, s54, s55, s56, s57, s58, s59, s60, s61, s62, s63, s64, s65, s66, s67, s68, s69, s70, s71, s72, s73, s74, s75, s76, s77, s78, s79, s80, s81, s82, s83, s84, s85, s86, s87, s88, s89, s90, s91, s92, s93, s94, s95, s96, s97, s98, s99, s100], defers := [] } w0 := by
  obtain ⟨a0, ha0⟩ : ∃ a0 : Act, a0 = { tmps := #[s0, s1, s2, (Value.pointer (some ⟨ga, 0, none⟩)), (Value.pointer (some ⟨gb, 0, none⟩)), s5, s6, s7, (Value.int IntKind.i64 (xn : Int)), (Value.int IntKind.i64 (yn : Int)), s10, (Value.slice (some ⟨gt, 0, none⟩) 4 4), s12, s13, s14, s15, s16, s17, s18, s19, s20, s21, s22, s23, s24, s25, s26, s27, s28, s29, s30, s31, s32, s33, s34, s35, s36, s37, s38, s39, s40, s41, s42, s43, s44, s45, s46, s47, s48, s49, s50, s51, s52, s53, s54, s55, s56, s57, s58, s59, s60, s61, s62, s63, s64, s65, s66, s67, s68, s69, s70, s71, s72, s73, s74, s75, s76, s77, s78, s79, s80, s81, s82, s83, s84, s85, s86, s87, s88, s89, s90, s91, s92, s93, s94, s95, s96, s97, s98, s99, s100], defers := [] } := ⟨_, rfl⟩
  have hfin : ∀ v : Nat → Value, Reg.gfr (Reg.opsOf Try.f4 4) a0 v (List.range 32) = { tmps := #[s0, s1, s2, (Value.pointer (some ⟨ga, 0, none⟩)), (Value.pointer (some ⟨gb, 0, none⟩)), s5, s6, s7, (Value.int IntKind.i64 (xn : Int)), (Value.int IntKind.i64 (yn : Int)), s10, (Value.slice (some ⟨gt, 0, none⟩) 4 4), s12, s13, s14, s15, s16, s17, s18, s19, s20, s21, s22, v 0, v 1, v 2, v 3, v 4, v 5, v 6, v 7, v 8, v 9, v 10, v 11, v 12, v 13, v 14, v 15, v 16, v 17, v 18, v 19, v 20, v 21, v 22, v 23, v 24, v 25, v 26, v 27, v 28, v 29, v 30, v 31, s55, s56, s57, s58, s59, s60, s61, s62, s63, s64, s65, s66, s67, s68, s69, s70, s71, s72, s73, s74, s75, s76, s77, s78, s79, s80, s81, s82, s83, s84, s85, s86, s87, s88, s89, s90, s91, s92, s93, s94, s95, s96, s97, s98, s99, s100], defers := [] } := fun v => by rw [ha0]; kernel_rfl
  rw [← ha0]
  have i3 : a0.eval (.tmp 3) = (Value.pointer (some ⟨ga, 0, none⟩)) := by rw [ha0]; rfl
  have i4 : a0.eval (.tmp 4) = (Value.pointer (some ⟨gb, 0, none⟩)) := by rw [ha0]; rfl
  have i8 : a0.eval (.tmp 8) = (Value.int IntKind.i64 (xn : Int)) := by rw [ha0]; rfl
  have i9 : a0.eval (.tmp 9) = (Value.int IntKind.i64 (yn : Int)) := by rw [ha0]; rfl
  have i11 : a0.eval (.tmp 11) = (Value.slice (some ⟨gt, 0, none⟩) 4 4) := by rw [ha0]; rfl
  have hsz : a0.tmps.size = 101 := by rw [ha0]; rfl
  clear ha0
  have hn : (Reg.opsOf Try.f4 4).size = 32 := by kernel_rfl
  have h0 : Reg.OpOK Try.prog (Reg.opsOf Try.f4 4) a0 w0 (stands4R a b ga gb gt xn yn n d d2) (fun _ _ _ _ => True) 0 := by
    refine Reg.op_ok2 (fun af => { dst := some 23, op := Op.move (Operand.tmp 8), type := 3, pos := "outright.go:114", after := af, guard := none }) #[] (by kernel_rfl) [] (by kernel_rfl) fun af v W hb hd => ?_
    have e8 := (Reg.gfr_eval0 (ops := (Reg.opsOf Try.f4 4)) (a0 := a0) (v := v) (L := []) 8 (by kernel_rfl)).trans i8
    refine ⟨Reg.wanted_none rfl, ?_⟩
    generalize Reg.gfr (Reg.opsOf Try.f4 4) a0 v [] = G at e8 ⊢
    generalize hρ : G.eval = ρ at e8
    have hρ' : G.eval = ρ := hρ
    refine Reg.go_run (Value.int IntKind.i64 (xn : Int)) W ?_ ?_
    · rw [hρ']; simp [execOp, go_sem, e8]
    · exact ⟨Below.refl _ _, rfl⟩
  have h1 : Reg.OpOK Try.prog (Reg.opsOf Try.f4 4) a0 w0 (stands4R a b ga gb gt xn yn n d d2) (fun _ _ _ _ => True) 1 := by
    refine Reg.op_ok2 (fun af => { dst := some 24, op := Op.binOp BinOp.lss 3 (Operand.tmp 23) (Operand.const (Value.int IntKind.i64 0)) 3, type := 4, pos := "outright.go:114", after := af, guard := none }) #[{ on := 0, ground := Ground.data }] (by kernel_rfl) [0] (by kernel_rfl) fun af v W hb hd => ?_
    have d0 : v 0 = (Value.int IntKind.i64 (xn : Int)) := hd 0 (by decide)
    have e23 := (Reg.gfr_eval (ops := (Reg.opsOf Try.f4 4)) (a0 := a0) (v := v) (L := [0]) 23 0 (by kernel_rfl) (by rw [hsz]; omega)).trans d0
    refine ⟨Reg.wanted_none rfl, ?_⟩
    have eC : ∀ x, (Reg.gfr (Reg.opsOf Try.f4 4) a0 v [0]).eval (.const x) = x := fun _ => rfl
    generalize Reg.gfr (Reg.opsOf Try.f4 4) a0 v [0] = G at e23 eC ⊢
    generalize hρ : G.eval = ρ at e23 eC
    have hρ' : G.eval = ρ := hρ
    refine Reg.go_run (Value.bool false) W ?_ ?_
    · rw [hρ']; simp [execOp, go_sem, e23, eC, k1]
    · exact ⟨Below.refl _ _, rfl⟩
  have h2 : Reg.OpOK Try.prog (Reg.opsOf Try.f4 4) a0 w0 (stands4R a b ga gb gt xn yn n d d2) (fun _ _ _ _ => True) 2 := by
    refine Reg.op_ok2 (fun af => { dst := some 25, op := Op.move (Operand.tmp 24), type := 4, pos := "outright.go:114", after := af, guard := none }) #[{ on := 1, ground := Ground.data }] (by kernel_rfl) [1] (by kernel_rfl) fun af v W hb hd => ?_
    have d1 : v 1 = (Value.bool false) := hd 1 (by decide)
    have e24 := (Reg.gfr_eval (ops := (Reg.opsOf Try.f4 4)) (a0 := a0) (v := v) (L := [1]) 24 1 (by kernel_rfl) (by rw [hsz]; omega)).trans d1
    refine ⟨Reg.wanted_none rfl, ?_⟩
    generalize Reg.gfr (Reg.opsOf Try.f4 4) a0 v [1] = G at e24 ⊢
    generalize hρ : G.eval = ρ at e24
    have hρ' : G.eval = ρ := hρ
    refine Reg.go_run (Value.bool false) W ?_ ?_
    · rw [hρ']; simp [execOp, go_sem, e24]
    · exact ⟨Below.refl _ _, rfl⟩
  have h3 : Reg.OpOK Try.prog (Reg.opsOf Try.f4 4) a0 w0 (stands4R a b ga gb gt xn yn n d d2) (fun _ _ _ _ => True) 3 := by
    refine Reg.op_ok2 (fun af => { dst := some 26, op := Op.move (Operand.tmp 8), type := 3, pos := "outright.go:114", after := af, guard := some (2, false) }) #[{ on := 2, ground := Ground.guard }] (by kernel_rfl) [2] (by kernel_rfl) fun af v W hb hd => ?_
    have d2 : v 2 = (Value.bool false) := hd 2 (by decide)
    have e8 := (Reg.gfr_eval0 (ops := (Reg.opsOf Try.f4 4)) (a0 := a0) (v := v) (L := [2]) 8 (by kernel_rfl)).trans i8
    have e25 := (Reg.gfr_eval (ops := (Reg.opsOf Try.f4 4)) (a0 := a0) (v := v) (L := [2]) 25 2 (by kernel_rfl) (by rw [hsz]; omega)).trans d2
    refine ⟨Reg.wanted_of rfl (by kernel_rfl) e25, ?_⟩
    generalize Reg.gfr (Reg.opsOf Try.f4 4) a0 v [2] = G at e8 ⊢
    generalize hρ : G.eval = ρ at e8
    have hρ' : G.eval = ρ := hρ
    refine Reg.go_run (Value.int IntKind.i64 (xn : Int)) W ?_ ?_
    · rw [hρ']; simp [execOp, go_sem, e8]
    · exact ⟨Below.refl _ _, rfl⟩
  have h4 : Reg.OpOK Try.prog (Reg.opsOf Try.f4 4) a0 w0 (stands4R a b ga gb gt xn yn n d d2) (fun _ _ _ _ => True) 4 := by
    refine Reg.op_ok2 (fun af => { dst := some 27, op := Op.binOp BinOp.gtr 3 (Operand.tmp 26) (Operand.const (Value.int IntKind.i64 3)) 3, type := 4, pos := "outright.go:114", after := af, guard := some (2, false) }) #[{ on := 3, ground := Ground.data }, { on := 2, ground := Ground.guard }] (by kernel_rfl) [3, 2] (by kernel_rfl) fun af v W hb hd => ?_
    have d2 : v 2 = (Value.bool false) := hd 2 (by decide)
    have d3 : v 3 = (Value.int IntKind.i64 (xn : Int)) := hd 3 (by decide)
    have e26 := (Reg.gfr_eval (ops := (Reg.opsOf Try.f4 4)) (a0 := a0) (v := v) (L := [3, 2]) 26 3 (by kernel_rfl) (by rw [hsz]; omega)).trans d3
    have e25 := (Reg.gfr_eval (ops := (Reg.opsOf Try.f4 4)) (a0 := a0) (v := v) (L := [3, 2]) 25 2 (by kernel_rfl) (by rw [hsz]; omega)).trans d2
    refine ⟨Reg.wanted_of rfl (by kernel_rfl) e25, ?_⟩
    have eC : ∀ x, (Reg.gfr (Reg.opsOf Try.f4 4) a0 v [3, 2]).eval (.const x) = x := fun _ => rfl
    generalize Reg.gfr (Reg.opsOf Try.f4 4) a0 v [3, 2] = G at e26 eC ⊢
    generalize hρ : G.eval = ρ at e26 eC
    have hρ' : G.eval = ρ := hρ
    refine Reg.go_run (Value.bool false) W ?_ ?_
    · rw [hρ']; simp [execOp, go_sem, e26, eC, k2]
    · exact ⟨Below.refl _ _, rfl⟩
  have h5 : Reg.OpOK Try.prog (Reg.opsOf Try.f4 4) a0 w0 (stands4R a b ga gb gt xn yn n d d2) (fun _ _ _ _ => True) 5 := by
    refine Reg.op_ok2 (fun af => { dst := some 28, op := Op.pick (Operand.tmp 25) (Operand.const (Value.bool true)) (Operand.tmp 27), type := 4, pos := "outright.go:114", after := af, guard := none }) #[{ on := 2, ground := Ground.data }, { on := 4, ground := Ground.data }] (by kernel_rfl) [2, 4] (by kernel_rfl) fun af v W hb hd => ?_
    have d2 : v 2 = (Value.bool false) := hd 2 (by decide)
    have d4 : v 4 = (Value.bool false) := hd 4 (by decide)
    have e25 := (Reg.gfr_eval (ops := (Reg.opsOf Try.f4 4)) (a0 := a0) (v := v) (L := [2, 4]) 25 2 (by kernel_rfl) (by rw [hsz]; omega)).trans d2
    have e27 := (Reg.gfr_eval (ops := (Reg.opsOf Try.f4 4)) (a0 := a0) (v := v) (L := [2, 4]) 27 4 (by kernel_rfl) (by rw [hsz]; omega)).trans d4
    refine ⟨Reg.wanted_none rfl, ?_⟩
    have eC : ∀ x, (Reg.gfr (Reg.opsOf Try.f4 4) a0 v [2, 4]).eval (.const x) = x := fun _ => rfl
    generalize Reg.gfr (Reg.opsOf Try.f4 4) a0 v [2, 4] = G at e25 e27 eC ⊢
    generalize hρ : G.eval = ρ at e25 e27 eC
    have hρ' : G.eval = ρ := hρ
    refine Reg.go_run (Value.bool false) W ?_ ?_
    · rw [hρ']; simp [execOp, go_sem, e25, e27, eC]
    · exact ⟨Below.refl _ _, rfl⟩
  have h6 : Reg.OpOK Try.prog (Reg.opsOf Try.f4 4) a0 w0 (stands4R a b ga gb gt xn yn n d d2) (fun _ _ _ _ => True) 6 := by
    refine Reg.op_ok2 (fun af => { dst := some 29, op := Op.move (Operand.tmp 28), type := 4, pos := "outright.go:114", after := af, guard := none }) #[{ on := 5, ground := Ground.data }, { on := 2, ground := Ground.chain }] (by kernel_rfl) [5, 2] (by kernel_rfl) fun af v W hb hd => ?_
    have d5 : v 5 = (Value.bool false) := hd 5 (by decide)
    have e28 := (Reg.gfr_eval (ops := (Reg.opsOf Try.f4 4)) (a0 := a0) (v := v) (L := [5, 2]) 28 5 (by kernel_rfl) (by rw [hsz]; omega)).trans d5
    refine ⟨Reg.wanted_none rfl, ?_⟩
    generalize Reg.gfr (Reg.opsOf Try.f4 4) a0 v [5, 2] = G at e28 ⊢
    generalize hρ : G.eval = ρ at e28
    have hρ' : G.eval = ρ := hρ
    refine Reg.go_run (Value.bool false) W ?_ ?_
    · rw [hρ']; simp [execOp, go_sem, e28]
    · exact ⟨Below.refl _ _, rfl⟩
  have h7 : Reg.OpOK Try.prog (Reg.opsOf Try.f4 4) a0 w0 (stands4R a b ga gb gt xn yn n d d2) (fun _ _ _ _ => True) 7 := by
    refine Reg.op_ok2 (fun af => { dst := some 30, op := Op.move (Operand.tmp 9), type := 3, pos := "outright.go:114", after := af, guard := some (6, false) }) #[{ on := 6, ground := Ground.guard }] (by kernel_rfl) [6] (by kernel_rfl) fun af v W hb hd => ?_
    have d6 : v 6 = (Value.bool false) := hd 6 (by decide)
    have e9 := (Reg.gfr_eval0 (ops := (Reg.opsOf Try.f4 4)) (a0 := a0) (v := v) (L := [6]) 9 (by kernel_rfl)).trans i9
    have e29 := (Reg.gfr_eval (ops := (Reg.opsOf Try.f4 4)) (a0 := a0) (v := v) (L := [6]) 29 6 (by kernel_rfl) (by rw [hsz]; omega)).trans d6
    refine ⟨Reg.wanted_of rfl (by kernel_rfl) e29, ?_⟩
    generalize Reg.gfr (Reg.opsOf Try.f4 4) a0 v [6] = G at e9 ⊢
    generalize hρ : G.eval = ρ at e9
    have hρ' : G.eval = ρ := hρ
    refine Reg.go_run (Value.int IntKind.i64 (yn : Int)) W ?_ ?_
    · rw [hρ']; simp [execOp, go_sem, e9]
    · exact ⟨Below.refl _ _, rfl⟩
  have h8 : Reg.OpOK Try.prog (Reg.opsOf Try.f4 4) a0 w0 (stands4R a b ga gb gt xn yn n d d2) (fun _ _ _ _ => True) 8 := by
    refine Reg.op_ok2 (fun af => { dst := some 31, op := Op.move (Operand.tmp 11), type := 30, pos := "outright.go:114", after := af, guard := some (6, false) }) #[{ on := 6, ground := Ground.guard }] (by kernel_rfl) [6] (by kernel_rfl) fun af v W hb hd => ?_
    have d6 : v 6 = (Value.bool false) := hd 6 (by decide)
    have e11 := (Reg.gfr_eval0 (ops := (Reg.opsOf Try.f4 4)) (a0 := a0) (v := v) (L := [6]) 11 (by kernel_rfl)).trans i11
    have e29 := (Reg.gfr_eval (ops := (Reg.opsOf Try.f4 4)) (a0 := a0) (v := v) (L := [6]) 29 6 (by kernel_rfl) (by rw [hsz]; omega)).trans d6
    refine ⟨Reg.wanted_of rfl (by kernel_rfl) e29, ?_⟩
    generalize Reg.gfr (Reg.opsOf Try.f4 4) a0 v [6] = G at e11 ⊢
    generalize hρ : G.eval = ρ at e11
    have hρ' : G.eval = ρ := hρ
    refine Reg.go_run (Value.slice (some ⟨gt, 0, none⟩) 4 4) W ?_ ?_
    · rw [hρ']; simp [execOp, go_sem, e11]
    · exact ⟨Below.refl _ _, rfl⟩
  have h9 : Reg.OpOK Try.prog (Reg.opsOf Try.f4 4) a0 w0 (stands4R a b ga gb gt xn yn n d d2) (fun _ _ _ _ => True) 9 := by
    refine Reg.op_ok2 (fun af => { dst := some 32, op := Op.move (Operand.tmp 8), type := 3, pos := "outright.go:114", after := af, guard := some (6, false) }) #[{ on := 6, ground := Ground.guard }] (by kernel_rfl) [6] (by kernel_rfl) fun af v W hb hd => ?_
    have d6 : v 6 = (Value.bool false) := hd 6 (by decide)
    have e8 := (Reg.gfr_eval0 (ops := (Reg.opsOf Try.f4 4)) (a0 := a0) (v := v) (L := [6]) 8 (by kernel_rfl)).trans i8
    have e29 := (Reg.gfr_eval (ops := (Reg.opsOf Try.f4 4)) (a0 := a0) (v := v) (L := [6]) 29 6 (by kernel_rfl) (by rw [hsz]; omega)).trans d6
    refine ⟨Reg.wanted_of rfl (by kernel_rfl) e29, ?_⟩
    generalize Reg.gfr (Reg.opsOf Try.f4 4) a0 v [6] = G at e8 ⊢
    generalize hρ : G.eval = ρ at e8
    have hρ' : G.eval = ρ := hρ
    refine Reg.go_run (Value.int IntKind.i64 (xn : Int)) W ?_ ?_
    · rw [hρ']; simp [execOp, go_sem, e8]
    · exact ⟨Below.refl _ _, rfl⟩
  have h10 : Reg.OpOK Try.prog (Reg.opsOf Try.f4 4) a0 w0 (stands4R a b ga gb gt xn yn n d d2) (fun _ _ _ _ => True) 10 := by
    refine Reg.op_ok2 (fun af => { dst := some 33, op := Op.indexAddr 30 (Operand.tmp 31) (Operand.tmp 32), type := 0, pos := "outright.go:114", after := af, guard := some (6, false) }) #[{ on := 8, ground := Ground.data }, { on := 9, ground := Ground.data }, { on := 6, ground := Ground.guard }] (by kernel_rfl) [8, 9, 6] (by kernel_rfl) fun af v W hb hd => ?_
    have d6 : v 6 = (Value.bool false) := hd 6 (by decide)
    have d8 : v 8 = (Value.slice (some ⟨gt, 0, none⟩) 4 4) := hd 8 (by decide)
    have d9 : v 9 = (Value.int IntKind.i64 (xn : Int)) := hd 9 (by decide)
    have e31 := (Reg.gfr_eval (ops := (Reg.opsOf Try.f4 4)) (a0 := a0) (v := v) (L := [8, 9, 6]) 31 8 (by kernel_rfl) (by rw [hsz]; omega)).trans d8
    have e32 := (Reg.gfr_eval (ops := (Reg.opsOf Try.f4 4)) (a0 := a0) (v := v) (L := [8, 9, 6]) 32 9 (by kernel_rfl) (by rw [hsz]; omega)).trans d9
    have e29 := (Reg.gfr_eval (ops := (Reg.opsOf Try.f4 4)) (a0 := a0) (v := v) (L := [8, 9, 6]) 29 6 (by kernel_rfl) (by rw [hsz]; omega)).trans d6
    refine ⟨Reg.wanted_of rfl (by kernel_rfl) e29, ?_⟩
    generalize Reg.gfr (Reg.opsOf Try.f4 4) a0 v [8, 9, 6] = G at e31 e32 ⊢
    generalize hρ : G.eval = ρ at e31 e32
    have hρ' : G.eval = ρ := hρ
    refine Reg.go_run (Value.pointer (some ⟨gt, xn, none⟩)) W ?_ ?_
    · rw [hρ']; simp [execOp, go_sem, e31, e32, k3, k4]
    · exact ⟨Below.refl _ _, rfl⟩
  have h11 : Reg.OpOK Try.prog (Reg.opsOf Try.f4 4) a0 w0 (stands4R a b ga gb gt xn yn n d d2) (fun _ _ _ _ => True) 11 := by
    refine Reg.op_ok2 (fun af => { dst := some 34, op := Op.load 3 (Operand.tmp 33), type := 3, pos := "outright.go:114", after := af, guard := some (6, false) }) #[{ on := 10, ground := Ground.data }, { on := 6, ground := Ground.guard }] (by kernel_rfl) [10, 6] (by kernel_rfl) fun af v W hb hd => ?_
    have d6 : v 6 = (Value.bool false) := hd 6 (by decide)
    have d10 : v 10 = (Value.pointer (some ⟨gt, xn, none⟩)) := hd 10 (by decide)
    have e33 := (Reg.gfr_eval (ops := (Reg.opsOf Try.f4 4)) (a0 := a0) (v := v) (L := [10, 6]) 33 10 (by kernel_rfl) (by rw [hsz]; omega)).trans d10
    have e29 := (Reg.gfr_eval (ops := (Reg.opsOf Try.f4 4)) (a0 := a0) (v := v) (L := [10, 6]) 29 6 (by kernel_rfl) (by rw [hsz]; omega)).trans d6
    refine ⟨Reg.wanted_of rfl (by kernel_rfl) e29, ?_⟩
    generalize Reg.gfr (Reg.opsOf Try.f4 4) a0 v [10, 6] = G at e33 ⊢
    generalize hρ : G.eval = ρ at e33
    have hρ' : G.eval = ρ := hρ
    refine Reg.go_run (Value.int IntKind.i64 (yn : Int)) W ?_ ?_
    · rw [hρ']; simp [execOp, go_sem, e33, M_t W hb]
    · exact ⟨Below.refl _ _, rfl⟩
  have h12 : Reg.OpOK Try.prog (Reg.opsOf Try.f4 4) a0 w0 (stands4R a b ga gb gt xn yn n d d2) (fun _ _ _ _ => True) 12 := by
    refine Reg.op_ok2 (fun af => { dst := some 35, op := Op.binOp BinOp.neq 3 (Operand.tmp 30) (Operand.tmp 34) 3, type := 4, pos := "outright.go:114", after := af, guard := some (6, false) }) #[{ on := 7, ground := Ground.data }, { on := 11, ground := Ground.data }, { on := 6, ground := Ground.guard }] (by kernel_rfl) [7, 11, 6] (by kernel_rfl) fun af v W hb hd => ?_
    have d6 : v 6 = (Value.bool false) := hd 6 (by decide)
    have d7 : v 7 = (Value.int IntKind.i64 (yn : Int)) := hd 7 (by decide)
    have d11 : v 11 = (Value.int IntKind.i64 (yn : Int)) := hd 11 (by decide)
    have e30 := (Reg.gfr_eval (ops := (Reg.opsOf Try.f4 4)) (a0 := a0) (v := v) (L := [7, 11, 6]) 30 7 (by kernel_rfl) (by rw [hsz]; omega)).trans d7
    have e34 := (Reg.gfr_eval (ops := (Reg.opsOf Try.f4 4)) (a0 := a0) (v := v) (L := [7, 11, 6]) 34 11 (by kernel_rfl) (by rw [hsz]; omega)).trans d11
    have e29 := (Reg.gfr_eval (ops := (Reg.opsOf Try.f4 4)) (a0 := a0) (v := v) (L := [7, 11, 6]) 29 6 (by kernel_rfl) (by rw [hsz]; omega)).trans d6
    refine ⟨Reg.wanted_of rfl (by kernel_rfl) e29, ?_⟩
    generalize Reg.gfr (Reg.opsOf Try.f4 4) a0 v [7, 11, 6] = G at e30 e34 ⊢
    generalize hρ : G.eval = ρ at e30 e34
    have hρ' : G.eval = ρ := hρ
    refine Reg.go_run (Value.bool false) W ?_ ?_
    · rw [hρ']; simp [execOp, go_sem, e30, e34]
    · exact ⟨Below.refl _ _, rfl⟩
  have h13 : Reg.OpOK Try.prog (Reg.opsOf Try.f4 4) a0 w0 (stands4R a b ga gb gt xn yn n d d2) (fun _ _ _ _ => True) 13 := by
    refine Reg.op_ok2 (fun af => { dst := some 36, op := Op.pick (Operand.tmp 29) (Operand.const (Value.bool true)) (Operand.tmp 35), type := 4, pos := "outright.go:114", after := af, guard := none }) #[{ on := 6, ground := Ground.data }, { on := 12, ground := Ground.data }] (by kernel_rfl) [6, 12] (by kernel_rfl) fun af v W hb hd => ?_
    have d6 : v 6 = (Value.bool false) := hd 6 (by decide)
    have d12 : v 12 = (Value.bool false) := hd 12 (by decide)
    have e29 := (Reg.gfr_eval (ops := (Reg.opsOf Try.f4 4)) (a0 := a0) (v := v) (L := [6, 12]) 29 6 (by kernel_rfl) (by rw [hsz]; omega)).trans d6
    have e35 := (Reg.gfr_eval (ops := (Reg.opsOf Try.f4 4)) (a0 := a0) (v := v) (L := [6, 12]) 35 12 (by kernel_rfl) (by rw [hsz]; omega)).trans d12
    refine ⟨Reg.wanted_none rfl, ?_⟩
    have eC : ∀ x, (Reg.gfr (Reg.opsOf Try.f4 4) a0 v [6, 12]).eval (.const x) = x := fun _ => rfl
    generalize Reg.gfr (Reg.opsOf Try.f4 4) a0 v [6, 12] = G at e29 e35 eC ⊢
    generalize hρ : G.eval = ρ at e29 e35 eC
    have hρ' : G.eval = ρ := hρ
    refine Reg.go_run (Value.bool false) W ?_ ?_
    · rw [hρ']; simp [execOp, go_sem, e29, e35, eC]
    · exact ⟨Below.refl _ _, rfl⟩
  have h14 : Reg.OpOK Try.prog (Reg.opsOf Try.f4 4) a0 w0 (stands4R a b ga gb gt xn yn n d d2) (fun _ _ _ _ => True) 14 := by
    refine Reg.op_ok2 (fun af => { dst := some 37, op := Op.move (Operand.tmp 36), type := 4, pos := "outright.go:114", after := af, guard := none }) #[{ on := 13, ground := Ground.data }, { on := 6, ground := Ground.chain }] (by kernel_rfl) [13, 6] (by kernel_rfl) fun af v W hb hd => ?_
    have d13 : v 13 = (Value.bool false) := hd 13 (by decide)
    have e36 := (Reg.gfr_eval (ops := (Reg.opsOf Try.f4 4)) (a0 := a0) (v := v) (L := [13, 6]) 36 13 (by kernel_rfl) (by rw [hsz]; omega)).trans d13
    refine ⟨Reg.wanted_none rfl, ?_⟩
    generalize Reg.gfr (Reg.opsOf Try.f4 4) a0 v [13, 6] = G at e36 ⊢
    generalize hρ : G.eval = ρ at e36
    have hρ' : G.eval = ρ := hρ
    refine Reg.go_run (Value.bool false) W ?_ ?_
    · rw [hρ']; simp [execOp, go_sem, e36]
    · exact ⟨Below.refl _ _, rfl⟩
  have h15 : Reg.OpOK Try.prog (Reg.opsOf Try.f4 4) a0 w0 (stands4R a b ga gb gt xn yn n d d2) (fun _ _ _ _ => True) 15 := by
    refine Reg.op_ok2 (fun af => { dst := some 38, op := Op.move (Operand.tmp 8), type := 3, pos := "outright.go:114", after := af, guard := some (14, false) }) #[{ on := 14, ground := Ground.guard }] (by kernel_rfl) [14] (by kernel_rfl) fun af v W hb hd => ?_
    have d14 : v 14 = (Value.bool false) := hd 14 (by decide)
    have e8 := (Reg.gfr_eval0 (ops := (Reg.opsOf Try.f4 4)) (a0 := a0) (v := v) (L := [14]) 8 (by kernel_rfl)).trans i8
    have e37 := (Reg.gfr_eval (ops := (Reg.opsOf Try.f4 4)) (a0 := a0) (v := v) (L := [14]) 37 14 (by kernel_rfl) (by rw [hsz]; omega)).trans d14
    refine ⟨Reg.wanted_of rfl (by kernel_rfl) e37, ?_⟩
    generalize Reg.gfr (Reg.opsOf Try.f4 4) a0 v [14] = G at e8 ⊢
    generalize hρ : G.eval = ρ at e8
    have hρ' : G.eval = ρ := hρ
    refine Reg.go_run (Value.int IntKind.i64 (xn : Int)) W ?_ ?_
    · rw [hρ']; simp [execOp, go_sem, e8]
    · exact ⟨Below.refl _ _, rfl⟩
  have h16 : Reg.OpOK Try.prog (Reg.opsOf Try.f4 4) a0 w0 (stands4R a b ga gb gt xn yn n d d2) (fun _ _ _ _ => True) 16 := by
    refine Reg.op_ok2 (fun af => { dst := some 39, op := Op.binOp BinOp.eql 3 (Operand.tmp 38) (Operand.const (Value.int IntKind.i64 0)) 3, type := 4, pos := "outright.go:114", after := af, guard := some (14, false) }) #[{ on := 15, ground := Ground.data }, { on := 14, ground := Ground.guard }] (by kernel_rfl) [15, 14] (by kernel_rfl) fun af v W hb hd => ?_
    have d14 : v 14 = (Value.bool false) := hd 14 (by decide)
    have d15 : v 15 = (Value.int IntKind.i64 (xn : Int)) := hd 15 (by decide)
    have e38 := (Reg.gfr_eval (ops := (Reg.opsOf Try.f4 4)) (a0 := a0) (v := v) (L := [15, 14]) 38 15 (by kernel_rfl) (by rw [hsz]; omega)).trans d15
    have e37 := (Reg.gfr_eval (ops := (Reg.opsOf Try.f4 4)) (a0 := a0) (v := v) (L := [15, 14]) 37 14 (by kernel_rfl) (by rw [hsz]; omega)).trans d14
    refine ⟨Reg.wanted_of rfl (by kernel_rfl) e37, ?_⟩
    have eC : ∀ x, (Reg.gfr (Reg.opsOf Try.f4 4) a0 v [15, 14]).eval (.const x) = x := fun _ => rfl
    generalize Reg.gfr (Reg.opsOf Try.f4 4) a0 v [15, 14] = G at e38 eC ⊢
    generalize hρ : G.eval = ρ at e38 eC
    have hρ' : G.eval = ρ := hρ
    refine Reg.go_run (Value.bool d) W ?_ ?_
    · rw [hρ']; simp [execOp, go_sem, e38, eC, f0]
    · exact ⟨Below.refl _ _, rfl⟩
  have h17 : Reg.OpOK Try.prog (Reg.opsOf Try.f4 4) a0 w0 (stands4R a b ga gb gt xn yn n d d2) (fun _ _ _ _ => True) 17 := by
    refine Reg.op_ok2 (fun af => { dst := some 40, op := Op.load 24 (Operand.tmp 3), type := 24, pos := "outright.go:114", after := af, guard := some (14, false) }) #[{ on := 14, ground := Ground.guard }] (by kernel_rfl) [14] (by kernel_rfl) fun af v W hb hd => ?_
    have d14 : v 14 = (Value.bool false) := hd 14 (by decide)
    have e3 := (Reg.gfr_eval0 (ops := (Reg.opsOf Try.f4 4)) (a0 := a0) (v := v) (L := [14]) 3 (by kernel_rfl)).trans i3
    have e37 := (Reg.gfr_eval (ops := (Reg.opsOf Try.f4 4)) (a0 := a0) (v := v) (L := [14]) 37 14 (by kernel_rfl) (by rw [hsz]; omega)).trans d14
    refine ⟨Reg.wanted_of rfl (by kernel_rfl) e37, ?_⟩
    generalize Reg.gfr (Reg.opsOf Try.f4 4) a0 v [14] = G at e3 ⊢
    generalize hρ : G.eval = ρ at e3
    have hρ' : G.eval = ρ := hρ
    exact fun K hK => wp_load_row 24 (.tmp 3) rfl ga (by rw [hρ']; exact e3) 24 (vC a) (0, 0) _ (M_ga W hb) Try.underlying24 rfl (vec_size ha) (hK _ _ ⟨Below.refl _ _, rfl⟩)
  have h18 : Reg.OpOK Try.prog (Reg.opsOf Try.f4 4) a0 w0 (stands4R a b ga gb gt xn yn n d d2) (fun _ _ _ _ => True) 18 := by
    refine Reg.op_ok2 (fun af => { dst := some 41, op := Op.load 24 (Operand.tmp 4), type := 24, pos := "outright.go:114", after := af, guard := some (14, false) }) #[{ on := 14, ground := Ground.guard }] (by kernel_rfl) [14] (by kernel_rfl) fun af v W hb hd => ?_
    have d14 : v 14 = (Value.bool false) := hd 14 (by decide)
    have e4 := (Reg.gfr_eval0 (ops := (Reg.opsOf Try.f4 4)) (a0 := a0) (v := v) (L := [14]) 4 (by kernel_rfl)).trans i4
    have e37 := (Reg.gfr_eval (ops := (Reg.opsOf Try.f4 4)) (a0 := a0) (v := v) (L := [14]) 37 14 (by kernel_rfl) (by rw [hsz]; omega)).trans d14
    refine ⟨Reg.wanted_of rfl (by kernel_rfl) e37, ?_⟩
    generalize Reg.gfr (Reg.opsOf Try.f4 4) a0 v [14] = G at e4 ⊢
    generalize hρ : G.eval = ρ at e4
    have hρ' : G.eval = ρ := hρ
    exact fun K hK => wp_load_row 24 (.tmp 4) rfl gb (by rw [hρ']; exact e4) 24 (vC b) (0, 0) _ (M_gb W hb) Try.underlying24 rfl (vec_size hb') (hK _ _ ⟨Below.refl _ _, rfl⟩)
  have h19 : Reg.OpOK Try.prog (Reg.opsOf Try.f4 4) a0 w0 (stands4R a b ga gb gt xn yn n d d2) (fun _ _ _ _ => True) 19 := by
    refine Reg.op_ok2 (fun af => { dst := some 42, op := Op.binOp BinOp.eql 24 (Operand.tmp 40) (Operand.tmp 41) 24, type := 4, pos := "outright.go:114", after := af, guard := some (14, false) }) #[{ on := 17, ground := Ground.data }, { on := 18, ground := Ground.data }, { on := 14, ground := Ground.guard }] (by kernel_rfl) [17, 18, 14] (by kernel_rfl) fun af v W hb hd => ?_
    have d14 : v 14 = (Value.bool false) := hd 14 (by decide)
    have d17 : v 17 = (Value.agg (vC a)) := hd 17 (by decide)
    have d18 : v 18 = (Value.agg (vC b)) := hd 18 (by decide)
    have e40 := (Reg.gfr_eval (ops := (Reg.opsOf Try.f4 4)) (a0 := a0) (v := v) (L := [17, 18, 14]) 40 17 (by kernel_rfl) (by rw [hsz]; omega)).trans d17
    have e41 := (Reg.gfr_eval (ops := (Reg.opsOf Try.f4 4)) (a0 := a0) (v := v) (L := [17, 18, 14]) 41 18 (by kernel_rfl) (by rw [hsz]; omega)).trans d18
    have e37 := (Reg.gfr_eval (ops := (Reg.opsOf Try.f4 4)) (a0 := a0) (v := v) (L := [17, 18, 14]) 37 14 (by kernel_rfl) (by rw [hsz]; omega)).trans d14
    refine ⟨Reg.wanted_of rfl (by kernel_rfl) e37, ?_⟩
    generalize Reg.gfr (Reg.opsOf Try.f4 4) a0 v [17, 18, 14] = G at e40 e41 ⊢
    generalize hρ : G.eval = ρ at e40 e41
    have hρ' : G.eval = ρ := hρ
    refine Reg.go_run (Value.bool d) W ?_ ?_
    · rw [hρ']; simp [execOp, go_sem, e40, e41, run_eq_vec W a b ha hb', f1]
    · exact ⟨Below.refl _ _, rfl⟩
  have h20 : Reg.OpOK Try.prog (Reg.opsOf Try.f4 4) a0 w0 (stands4R a b ga gb gt xn yn n d d2) (fun _ _ _ _ => True) 20 := by
    refine Reg.op_ok2 (fun af => { dst := some 43, op := Op.binOp BinOp.neq 4 (Operand.tmp 39) (Operand.tmp 42) 4, type := 4, pos := "outright.go:114", after := af, guard := some (14, false) }) #[{ on := 16, ground := Ground.data }, { on := 19, ground := Ground.data }, { on := 14, ground := Ground.guard }] (by kernel_rfl) [16, 19, 14] (by kernel_rfl) fun af v W hb hd => ?_
    have d14 : v 14 = (Value.bool false) := hd 14 (by decide)
    have d16 : v 16 = (Value.bool d) := hd 16 (by decide)
    have d19 : v 19 = (Value.bool d) := hd 19 (by decide)
    have e39 := (Reg.gfr_eval (ops := (Reg.opsOf Try.f4 4)) (a0 := a0) (v := v) (L := [16, 19, 14]) 39 16 (by kernel_rfl) (by rw [hsz]; omega)).trans d16
    have e42 := (Reg.gfr_eval (ops := (Reg.opsOf Try.f4 4)) (a0 := a0) (v := v) (L := [16, 19, 14]) 42 19 (by kernel_rfl) (by rw [hsz]; omega)).trans d19
    have e37 := (Reg.gfr_eval (ops := (Reg.opsOf Try.f4 4)) (a0 := a0) (v := v) (L := [16, 19, 14]) 37 14 (by kernel_rfl) (by rw [hsz]; omega)).trans d14
    refine ⟨Reg.wanted_of rfl (by kernel_rfl) e37, ?_⟩
    generalize Reg.gfr (Reg.opsOf Try.f4 4) a0 v [16, 19, 14] = G at e39 e42 ⊢
    generalize hρ : G.eval = ρ at e39 e42
    have hρ' : G.eval = ρ := hρ
    refine Reg.go_run (Value.bool false) W ?_ ?_
    · rw [hρ']; simp [execOp, go_sem, e39, e42]
    · exact ⟨Below.refl _ _, rfl⟩
  have h21 : Reg.OpOK Try.prog (Reg.opsOf Try.f4 4) a0 w0 (stands4R a b ga gb gt xn yn n d d2) (fun _ _ _ _ => True) 21 := by
    refine Reg.op_ok2 (fun af => { dst := some 44, op := Op.pick (Operand.tmp 37) (Operand.const (Value.bool true)) (Operand.tmp 43), type := 4, pos := "outright.go:114", after := af, guard := none }) #[{ on := 14, ground := Ground.data }, { on := 20, ground := Ground.data }] (by kernel_rfl) [14, 20] (by kernel_rfl) fun af v W hb hd => ?_
    have d14 : v 14 = (Value.bool false) := hd 14 (by decide)
    have d20 : v 20 = (Value.bool false) := hd 20 (by decide)
    have e37 := (Reg.gfr_eval (ops := (Reg.opsOf Try.f4 4)) (a0 := a0) (v := v) (L := [14, 20]) 37 14 (by kernel_rfl) (by rw [hsz]; omega)).trans d14
    have e43 := (Reg.gfr_eval (ops := (Reg.opsOf Try.f4 4)) (a0 := a0) (v := v) (L := [14, 20]) 43 20 (by kernel_rfl) (by rw [hsz]; omega)).trans d20
    refine ⟨Reg.wanted_none rfl, ?_⟩
    have eC : ∀ x, (Reg.gfr (Reg.opsOf Try.f4 4) a0 v [14, 20]).eval (.const x) = x := fun _ => rfl
    generalize Reg.gfr (Reg.opsOf Try.f4 4) a0 v [14, 20] = G at e37 e43 eC ⊢
    generalize hρ : G.eval = ρ at e37 e43 eC
    have hρ' : G.eval = ρ := hρ
    refine Reg.go_run (Value.bool false) W ?_ ?_
    · rw [hρ']; simp [execOp, go_sem, e37, e43, eC]
    · exact ⟨Below.refl _ _, rfl⟩
  have h22 : Reg.OpOK Try.prog (Reg.opsOf Try.f4 4) a0 w0 (stands4R a b ga gb gt xn yn n d d2) (fun _ _ _ _ => True) 22 := by
    refine Reg.op_ok2 (fun af => { dst := some 45, op := Op.move (Operand.tmp 44), type := 4, pos := "outright.go:114", after := af, guard := none }) #[{ on := 21, ground := Ground.data }, { on := 14, ground := Ground.chain }] (by kernel_rfl) [21, 14] (by kernel_rfl) fun af v W hb hd => ?_
    have d21 : v 21 = (Value.bool false) := hd 21 (by decide)
    have e44 := (Reg.gfr_eval (ops := (Reg.opsOf Try.f4 4)) (a0 := a0) (v := v) (L := [21, 14]) 44 21 (by kernel_rfl) (by rw [hsz]; omega)).trans d21
    refine ⟨Reg.wanted_none rfl, ?_⟩
    generalize Reg.gfr (Reg.opsOf Try.f4 4) a0 v [21, 14] = G at e44 ⊢
    generalize hρ : G.eval = ρ at e44
    have hρ' : G.eval = ρ := hρ
    refine Reg.go_run (Value.bool false) W ?_ ?_
    · rw [hρ']; simp [execOp, go_sem, e44]
    · exact ⟨Below.refl _ _, rfl⟩
  have h23 : Reg.OpOK Try.prog (Reg.opsOf Try.f4 4) a0 w0 (stands4R a b ga gb gt xn yn n d d2) (fun _ _ _ _ => True) 23 := by
    refine Reg.op_ok2 (fun af => { dst := some 46, op := Op.load 24 (Operand.tmp 3), type := 24, pos := "outright.go:114", after := af, guard := some (22, false) }) #[{ on := 22, ground := Ground.guard }] (by kernel_rfl) [22] (by kernel_rfl) fun af v W hb hd => ?_
    have d22 : v 22 = (Value.bool false) := hd 22 (by decide)
    have e3 := (Reg.gfr_eval0 (ops := (Reg.opsOf Try.f4 4)) (a0 := a0) (v := v) (L := [22]) 3 (by kernel_rfl)).trans i3
    have e45 := (Reg.gfr_eval (ops := (Reg.opsOf Try.f4 4)) (a0 := a0) (v := v) (L := [22]) 45 22 (by kernel_rfl) (by rw [hsz]; omega)).trans d22
    refine ⟨Reg.wanted_of rfl (by kernel_rfl) e45, ?_⟩
    generalize Reg.gfr (Reg.opsOf Try.f4 4) a0 v [22] = G at e3 ⊢
    generalize hρ : G.eval = ρ at e3
    have hρ' : G.eval = ρ := hρ
    exact fun K hK => wp_load_row 24 (.tmp 3) rfl ga (by rw [hρ']; exact e3) 24 (vC a) (0, 0) _ (M_ga W hb) Try.underlying24 rfl (vec_size ha) (hK _ _ ⟨Below.refl _ _, rfl⟩)
  have h24 : Reg.OpOK Try.prog (Reg.opsOf Try.f4 4) a0 w0 (stands4R a b ga gb gt xn yn n d d2) (fun _ _ _ _ => True) 24 := by
    refine Reg.op_ok2 (fun af => { dst := some 47, op := Op.load 24 (Operand.tmp 4), type := 24, pos := "outright.go:114", after := af, guard := some (22, false) }) #[{ on := 22, ground := Ground.guard }] (by kernel_rfl) [22] (by kernel_rfl) fun af v W hb hd => ?_
    have d22 : v 22 = (Value.bool false) := hd 22 (by decide)
    have e4 := (Reg.gfr_eval0 (ops := (Reg.opsOf Try.f4 4)) (a0 := a0) (v := v) (L := [22]) 4 (by kernel_rfl)).trans i4
    have e45 := (Reg.gfr_eval (ops := (Reg.opsOf Try.f4 4)) (a0 := a0) (v := v) (L := [22]) 45 22 (by kernel_rfl) (by rw [hsz]; omega)).trans d22
    refine ⟨Reg.wanted_of rfl (by kernel_rfl) e45, ?_⟩
    generalize Reg.gfr (Reg.opsOf Try.f4 4) a0 v [22] = G at e4 ⊢
    generalize hρ : G.eval = ρ at e4
    have hρ' : G.eval = ρ := hρ
    exact fun K hK => wp_load_row 24 (.tmp 4) rfl gb (by rw [hρ']; exact e4) 24 (vC b) (0, 0) _ (M_gb W hb) Try.underlying24 rfl (vec_size hb') (hK _ _ ⟨Below.refl _ _, rfl⟩)
  have h25 : Reg.OpOK Try.prog (Reg.opsOf Try.f4 4) a0 w0 (stands4R a b ga gb gt xn yn n d d2) (fun _ _ _ _ => True) 25 := by
    refine Reg.op_ok2 (fun af => { dst := some 48, op := Op.call { callee := Callee.value (Operand.func 15), args := #[Operand.tmp 46, Operand.tmp 47], argTypes := #[24, 24] }, type := 31, pos := "outright.go:114", after := af, guard := some (22, false) }) #[{ on := 23, ground := Ground.data }, { on := 24, ground := Ground.data }, { on := 22, ground := Ground.chain }, { on := 22, ground := Ground.guard }] (by kernel_rfl) [23, 24, 22, 22] (by kernel_rfl) fun af v W hb hd => ?_
    have d22 : v 22 = (Value.bool false) := hd 22 (by decide)
    have d23 : v 23 = (Value.agg (vC a)) := hd 23 (by decide)
    have d24 : v 24 = (Value.agg (vC b)) := hd 24 (by decide)
    have e46 := (Reg.gfr_eval (ops := (Reg.opsOf Try.f4 4)) (a0 := a0) (v := v) (L := [23, 24, 22, 22]) 46 23 (by kernel_rfl) (by rw [hsz]; omega)).trans d23
    have e47 := (Reg.gfr_eval (ops := (Reg.opsOf Try.f4 4)) (a0 := a0) (v := v) (L := [23, 24, 22, 22]) 47 24 (by kernel_rfl) (by rw [hsz]; omega)).trans d24
    have e45 := (Reg.gfr_eval (ops := (Reg.opsOf Try.f4 4)) (a0 := a0) (v := v) (L := [23, 24, 22, 22]) 45 22 (by kernel_rfl) (by rw [hsz]; omega)).trans d22
    refine ⟨Reg.wanted_of rfl (by kernel_rfl) e45, ?_⟩
    have eF : ∀ f, (Reg.gfr (Reg.opsOf Try.f4 4) a0 v [23, 24, 22, 22]).eval (.func f) = .func (.func f) #[] #[] := fun _ => rfl
    generalize Reg.gfr (Reg.opsOf Try.f4 4) a0 v [23, 24, 22, 22] = G at e46 e47 eF ⊢
    generalize hρ : G.eval = ρ at e46 e47 eF
    have hρ' : G.eval = ρ := hρ
    refine Reg.go_call 15 #[(Value.agg (vC a)), (Value.agg (vC b))] (by rw [hρ']; simp [execOp, go_sem, e46, e47, eF]) ((lacks_any a b ha hb' sa sb W).mono fun e w' he => ?_)
    obtain ⟨rfl, hbb⟩ := he
    exact ⟨_, rfl, hbb, (show _ = _ from by rw [f2])⟩
  have h26 : Reg.OpOK Try.prog (Reg.opsOf Try.f4 4) a0 w0 (stands4R a b ga gb gt xn yn n d d2) (fun _ _ _ _ => True) 26 := by
    refine Reg.op_ok2 (fun af => { dst := some 49, op := Op.binOp BinOp.eql 31 (Operand.tmp 48) (Operand.const (Value.int IntKind.u64 0)) 31, type := 4, pos := "outright.go:114", after := af, guard := some (22, false) }) #[{ on := 25, ground := Ground.data }, { on := 22, ground := Ground.guard }] (by kernel_rfl) [25, 22] (by kernel_rfl) fun af v W hb hd => ?_
    have d22 : v 22 = (Value.bool false) := hd 22 (by decide)
    have d25 : v 25 = (Value.int IntKind.u64 (n : Int)) := hd 25 (by decide)
    have e48 := (Reg.gfr_eval (ops := (Reg.opsOf Try.f4 4)) (a0 := a0) (v := v) (L := [25, 22]) 48 25 (by kernel_rfl) (by rw [hsz]; omega)).trans d25
    have e45 := (Reg.gfr_eval (ops := (Reg.opsOf Try.f4 4)) (a0 := a0) (v := v) (L := [25, 22]) 45 22 (by kernel_rfl) (by rw [hsz]; omega)).trans d22
    refine ⟨Reg.wanted_of rfl (by kernel_rfl) e45, ?_⟩
    have eC : ∀ x, (Reg.gfr (Reg.opsOf Try.f4 4) a0 v [25, 22]).eval (.const x) = x := fun _ => rfl
    generalize Reg.gfr (Reg.opsOf Try.f4 4) a0 v [25, 22] = G at e48 eC ⊢
    generalize hρ : G.eval = ρ at e48 eC
    have hρ' : G.eval = ρ := hρ
    refine Reg.go_run (Value.bool d2) W ?_ ?_
    · rw [hρ']; simp [execOp, go_sem, e48, eC, f3]
    · exact ⟨Below.refl _ _, rfl⟩
  have h27 : Reg.OpOK Try.prog (Reg.opsOf Try.f4 4) a0 w0 (stands4R a b ga gb gt xn yn n d d2) (fun _ _ _ _ => True) 27 := by
    refine Reg.op_ok2 (fun af => { dst := some 50, op := Op.load 24 (Operand.tmp 4), type := 24, pos := "outright.go:114", after := af, guard := some (22, false) }) #[{ on := 22, ground := Ground.guard }] (by kernel_rfl) [22] (by kernel_rfl) fun af v W hb hd => ?_
    have d22 : v 22 = (Value.bool false) := hd 22 (by decide)
    have e4 := (Reg.gfr_eval0 (ops := (Reg.opsOf Try.f4 4)) (a0 := a0) (v := v) (L := [22]) 4 (by kernel_rfl)).trans i4
    have e45 := (Reg.gfr_eval (ops := (Reg.opsOf Try.f4 4)) (a0 := a0) (v := v) (L := [22]) 45 22 (by kernel_rfl) (by rw [hsz]; omega)).trans d22
    refine ⟨Reg.wanted_of rfl (by kernel_rfl) e45, ?_⟩
    generalize Reg.gfr (Reg.opsOf Try.f4 4) a0 v [22] = G at e4 ⊢
    generalize hρ : G.eval = ρ at e4
    have hρ' : G.eval = ρ := hρ
    exact fun K hK => wp_load_row 24 (.tmp 4) rfl gb (by rw [hρ']; exact e4) 24 (vC b) (0, 0) _ (M_gb W hb) Try.underlying24 rfl (vec_size hb') (hK _ _ ⟨Below.refl _ _, rfl⟩)
  have h28 : Reg.OpOK Try.prog (Reg.opsOf Try.f4 4) a0 w0 (stands4R a b ga gb gt xn yn n d d2) (fun _ _ _ _ => True) 28 := by
    refine Reg.op_ok2 (fun af => { dst := some 51, op := Op.load 24 (Operand.tmp 3), type := 24, pos := "outright.go:114", after := af, guard := some (22, false) }) #[{ on := 22, ground := Ground.guard }] (by kernel_rfl) [22] (by kernel_rfl) fun af v W hb hd => ?_
    have d22 : v 22 = (Value.bool false) := hd 22 (by decide)
    have e3 := (Reg.gfr_eval0 (ops := (Reg.opsOf Try.f4 4)) (a0 := a0) (v := v) (L := [22]) 3 (by kernel_rfl)).trans i3
    have e45 := (Reg.gfr_eval (ops := (Reg.opsOf Try.f4 4)) (a0 := a0) (v := v) (L := [22]) 45 22 (by kernel_rfl) (by rw [hsz]; omega)).trans d22
    refine ⟨Reg.wanted_of rfl (by kernel_rfl) e45, ?_⟩
    generalize Reg.gfr (Reg.opsOf Try.f4 4) a0 v [22] = G at e3 ⊢
    generalize hρ : G.eval = ρ at e3
    have hρ' : G.eval = ρ := hρ
    exact fun K hK => wp_load_row 24 (.tmp 3) rfl ga (by rw [hρ']; exact e3) 24 (vC a) (0, 0) _ (M_ga W hb) Try.underlying24 rfl (vec_size ha) (hK _ _ ⟨Below.refl _ _, rfl⟩)
  have h29 : Reg.OpOK Try.prog (Reg.opsOf Try.f4 4) a0 w0 (stands4R a b ga gb gt xn yn n d d2) (fun _ _ _ _ => True) 29 := by
    refine Reg.op_ok2 (fun af => { dst := some 52, op := Op.call { callee := Callee.value (Operand.func 13), args := #[Operand.tmp 50, Operand.tmp 51], argTypes := #[24, 24] }, type := 4, pos := "outright.go:114", after := af, guard := some (22, false) }) #[{ on := 27, ground := Ground.data }, { on := 28, ground := Ground.data }, { on := 25, ground := Ground.chain }, { on := 22, ground := Ground.guard }] (by kernel_rfl) [27, 28, 25, 22] (by kernel_rfl) fun af v W hb hd => ?_
    have d22 : v 22 = (Value.bool false) := hd 22 (by decide)
    have d27 : v 27 = (Value.agg (vC b)) := hd 27 (by decide)
    have d28 : v 28 = (Value.agg (vC a)) := hd 28 (by decide)
    have e50 := (Reg.gfr_eval (ops := (Reg.opsOf Try.f4 4)) (a0 := a0) (v := v) (L := [27, 28, 25, 22]) 50 27 (by kernel_rfl) (by rw [hsz]; omega)).trans d27
    have e51 := (Reg.gfr_eval (ops := (Reg.opsOf Try.f4 4)) (a0 := a0) (v := v) (L := [27, 28, 25, 22]) 51 28 (by kernel_rfl) (by rw [hsz]; omega)).trans d28
    have e45 := (Reg.gfr_eval (ops := (Reg.opsOf Try.f4 4)) (a0 := a0) (v := v) (L := [27, 28, 25, 22]) 45 22 (by kernel_rfl) (by rw [hsz]; omega)).trans d22
    refine ⟨Reg.wanted_of rfl (by kernel_rfl) e45, ?_⟩
    have eF : ∀ f, (Reg.gfr (Reg.opsOf Try.f4 4) a0 v [27, 28, 25, 22]).eval (.func f) = .func (.func f) #[] #[] := fun _ => rfl
    generalize Reg.gfr (Reg.opsOf Try.f4 4) a0 v [27, 28, 25, 22] = G at e50 e51 eF ⊢
    generalize hρ : G.eval = ρ at e50 e51 eF
    have hρ' : G.eval = ρ := hρ
    refine Reg.go_call 13 #[(Value.agg (vC b)), (Value.agg (vC a))] (by rw [hρ']; simp [execOp, go_sem, e50, e51, eF]) ((atmost_any b a hb' ha W).mono fun e w' he => ?_)
    obtain ⟨rfl, hbb⟩ := he
    exact ⟨_, rfl, hbb, (show _ = _ from by rw [f4])⟩
  have h30 : Reg.OpOK Try.prog (Reg.opsOf Try.f4 4) a0 w0 (stands4R a b ga gb gt xn yn n d d2) (fun _ _ _ _ => True) 30 := by
    refine Reg.op_ok2 (fun af => { dst := some 53, op := Op.binOp BinOp.neq 4 (Operand.tmp 49) (Operand.tmp 52) 4, type := 4, pos := "outright.go:114", after := af, guard := some (22, false) }) #[{ on := 26, ground := Ground.data }, { on := 29, ground := Ground.data }, { on := 22, ground := Ground.guard }] (by kernel_rfl) [26, 29, 22] (by kernel_rfl) fun af v W hb hd => ?_
    have d22 : v 22 = (Value.bool false) := hd 22 (by decide)
    have d26 : v 26 = (Value.bool d2) := hd 26 (by decide)
    have d29 : v 29 = (Value.bool d2) := hd 29 (by decide)
    have e49 := (Reg.gfr_eval (ops := (Reg.opsOf Try.f4 4)) (a0 := a0) (v := v) (L := [26, 29, 22]) 49 26 (by kernel_rfl) (by rw [hsz]; omega)).trans d26
    have e52 := (Reg.gfr_eval (ops := (Reg.opsOf Try.f4 4)) (a0 := a0) (v := v) (L := [26, 29, 22]) 52 29 (by kernel_rfl) (by rw [hsz]; omega)).trans d29
    have e45 := (Reg.gfr_eval (ops := (Reg.opsOf Try.f4 4)) (a0 := a0) (v := v) (L := [26, 29, 22]) 45 22 (by kernel_rfl) (by rw [hsz]; omega)).trans d22
    refine ⟨Reg.wanted_of rfl (by kernel_rfl) e45, ?_⟩
    generalize Reg.gfr (Reg.opsOf Try.f4 4) a0 v [26, 29, 22] = G at e49 e52 ⊢
    generalize hρ : G.eval = ρ at e49 e52
    have hρ' : G.eval = ρ := hρ
    refine Reg.go_run (Value.bool false) W ?_ ?_
    · rw [hρ']; simp [execOp, go_sem, e49, e52]
    · exact ⟨Below.refl _ _, rfl⟩
  have h31 : Reg.OpOK Try.prog (Reg.opsOf Try.f4 4) a0 w0 (stands4R a b ga gb gt xn yn n d d2) (fun _ _ _ _ => True) 31 := by
    refine Reg.op_ok2 (fun af => { dst := some 54, op := Op.pick (Operand.tmp 45) (Operand.const (Value.bool true)) (Operand.tmp 53), type := 4, pos := "outright.go:114", after := af, guard := none }) #[{ on := 22, ground := Ground.data }, { on := 30, ground := Ground.data }] (by kernel_rfl) [22, 30] (by kernel_rfl) fun af v W hb hd => ?_
    have d22 : v 22 = (Value.bool false) := hd 22 (by decide)
    have d30 : v 30 = (Value.bool false) := hd 30 (by decide)
    have e45 := (Reg.gfr_eval (ops := (Reg.opsOf Try.f4 4)) (a0 := a0) (v := v) (L := [22, 30]) 45 22 (by kernel_rfl) (by rw [hsz]; omega)).trans d22
    have e53 := (Reg.gfr_eval (ops := (Reg.opsOf Try.f4 4)) (a0 := a0) (v := v) (L := [22, 30]) 53 30 (by kernel_rfl) (by rw [hsz]; omega)).trans d30
    refine ⟨Reg.wanted_none rfl, ?_⟩
    have eC : ∀ x, (Reg.gfr (Reg.opsOf Try.f4 4) a0 v [22, 30]).eval (.const x) = x := fun _ => rfl
    generalize Reg.gfr (Reg.opsOf Try.f4 4) a0 v [22, 30] = G at e45 e53 eC ⊢
    generalize hρ : G.eval = ρ at e45 e53 eC
    have hρ' : G.eval = ρ := hρ
    refine Reg.go_run (Value.bool false) W ?_ ?_
    · rw [hρ']; simp [execOp, go_sem, e45, e53, eC]
    · exact ⟨Below.refl _ _, rfl⟩
  refine Reg.region_all (by kernel_rfl) (stands4R a b ga gb gt xn yn n d d2) (by rw [hn, hsz]; kernel_rfl) (stands4_stable a b ga gb gt xn yn n d d2) (fun i hi => ?_) (fun v w hb hR => ?_)
  · rw [hn] at hi
    match i, List.mem_range.1 hi with
    | 0, _ => exact h0
    | 1, _ => exact h1
    | 2, _ => exact h2
    | 3, _ => exact h3
    | 4, _ => exact h4
    | 5, _ => exact h5
    | 6, _ => exact h6
    | 7, _ => exact h7
    | 8, _ => exact h8
    | 9, _ => exact h9
    | 10, _ => exact h10
    | 11, _ => exact h11
    | 12, _ => exact h12
    | 13, _ => exact h13
    | 14, _ => exact h14
    | 15, _ => exact h15
    | 16, _ => exact h16
    | 17, _ => exact h17
    | 18, _ => exact h18
    | 19, _ => exact h19
    | 20, _ => exact h20
    | 21, _ => exact h21
    | 22, _ => exact h22
    | 23, _ => exact h23
    | 24, _ => exact h24
    | 25, _ => exact h25
    | 26, _ => exact h26
    | 27, _ => exact h27
    | 28, _ => exact h28
    | 29, _ => exact h29
    | 30, _ => exact h30
    | 31, _ => exact h31
    | (_ + 32), h => omega
  · rw [hn] at hR ⊢
    have v0 : v 0 = (Value.int IntKind.i64 (xn : Int)) := hR 0 (by decide)
    have v1 : v 1 = (Value.bool false) := hR 1 (by decide)
    have v2 : v 2 = (Value.bool false) := hR 2 (by decide)
    have v3 : v 3 = (Value.int IntKind.i64 (xn : Int)) := hR 3 (by decide)
    have v4 : v 4 = (Value.bool false) := hR 4 (by decide)
    have v5 : v 5 = (Value.bool false) := hR 5 (by decide)
    have v6 : v 6 = (Value.bool false) := hR 6 (by decide)
    have v7 : v 7 = (Value.int IntKind.i64 (yn : Int)) := hR 7 (by decide)
    have v8 : v 8 = (Value.slice (some ⟨gt, 0, none⟩) 4 4) := hR 8 (by decide)
    have v9 : v 9 = (Value.int IntKind.i64 (xn : Int)) := hR 9 (by decide)
    have v10 : v 10 = (Value.pointer (some ⟨gt, xn, none⟩)) := hR 10 (by decide)
    have v11 : v 11 = (Value.int IntKind.i64 (yn : Int)) := hR 11 (by decide)
    have v12 : v 12 = (Value.bool false) := hR 12 (by decide)
    have v13 : v 13 = (Value.bool false) := hR 13 (by decide)
    have v14 : v 14 = (Value.bool false) := hR 14 (by decide)
    have v15 : v 15 = (Value.int IntKind.i64 (xn : Int)) := hR 15 (by decide)
    have v16 : v 16 = (Value.bool d) := hR 16 (by decide)
    have v17 : v 17 = (Value.agg (vC a)) := hR 17 (by decide)
    have v18 : v 18 = (Value.agg (vC b)) := hR 18 (by decide)
    have v19 : v 19 = (Value.bool d) := hR 19 (by decide)
    have v20 : v 20 = (Value.bool false) := hR 20 (by decide)
    have v21 : v 21 = (Value.bool false) := hR 21 (by decide)
    have v22 : v 22 = (Value.bool false) := hR 22 (by decide)
    have v23 : v 23 = (Value.agg (vC a)) := hR 23 (by decide)
    have v24 : v 24 = (Value.agg (vC b)) := hR 24 (by decide)
    have v25 : v 25 = (Value.int IntKind.u64 (n : Int)) := hR 25 (by decide)
    have v26 : v 26 = (Value.bool d2) := hR 26 (by decide)
    have v27 : v 27 = (Value.agg (vC b)) := hR 27 (by decide)
    have v28 : v 28 = (Value.agg (vC a)) := hR 28 (by decide)
    have v29 : v 29 = (Value.bool d2) := hR 29 (by decide)
    have v30 : v 30 = (Value.bool false) := hR 30 (by decide)
    have v31 : v 31 = (Value.bool false) := hR 31 (by decide)
    rw [hfin v, v0, v1, v2, v3, v4, v5, v6, v7, v8, v9, v10, v11, v12, v13, v14, v15, v16, v17, v18, v19, v20, v21, v22, v23, v24, v25, v26, v27, v28, v29, v30, v31]
    exact hend w  hb 
def stands8_tR (a b m : List Nat) (ga gb : Nat) (xn n : Nat) (dd e : Bool) : Nat → Value → World → Prop
  | 0 => fun x_ _ => x_ = (Value.bool true)
  | 1 => fun x_ _ => x_ = (Value.bool true)
  | 2 => fun x_ _ => x_ = (Value.agg (vC a))
  | 3 => fun x_ _ => x_ = (Value.agg (vC b))
  | 4 => fun x_ _ => x_ = (Value.bool true)
  | 5 => fun x_ _ => x_ = (Value.int IntKind.i64 (xn : Int))
  | 6 => fun x_ _ => x_ = (Value.bool true)
  | 7 => fun x_ _ => x_ = (Value.bool true)
  | 8 => fun x_ _ => x_ = undef
  | 9 => fun x_ _ => x_ = undef
  | 10 => fun x_ _ => x_ = (Value.bool true)
  | 11 => fun x_ _ => x_ = (Value.bool true)
  | 12 => fun x_ _ => x_ = (Value.bool true)
  | 13 => fun x_ _ => x_ = (Value.bool true)
  | 14 => fun x_ _ => x_ = (Value.agg (vC a))
  | 15 => fun x_ _ => x_ = (Value.agg (vC b))
  | 16 => fun x_ _ => x_ = (Value.bool true)
  | 17 => fun x_ _ => x_ = (Value.agg (vC a))
  | 18 => fun x_ _ => x_ = (Value.agg (vC b))
  | 19 => fun x_ _ => x_ = (Value.bool true)
  | 20 => fun x_ _ => x_ = (Value.bool true)
  | 21 => fun x_ _ => x_ = (Value.bool true)
  | 22 => fun x_ _ => x_ = (Value.bool true)
  | 23 => fun x_ _ => x_ = (Value.agg (vC a))
  | 24 => fun x_ _ => x_ = (Value.agg (vC a))
  | 25 => fun x_ _ => x_ = (Value.agg (vC b))
  | 26 => Reg.IsRow 24 (vecs [a, b]).toArray 2
  | 27 => fun x_ _ => x_ = (Value.agg (vC m))
  | 28 => fun x_ _ => x_ = (Value.int IntKind.u64 (n : Int))
  | 29 => fun x_ _ => x_ = (Value.agg (vC a))
  | 30 => fun x_ _ => x_ = (Value.agg (vC b))
  | 31 => fun x_ _ => x_ = (Value.int IntKind.u64 (n : Int))
  | 32 => fun x_ _ => x_ = (Value.bool true)
  | 33 => fun x_ _ => x_ = (Value.bool true)
  | 34 => fun x_ _ => x_ = (Value.bool true)
  | _ => fun _ _ => True
theorem stands8_t_stable (a b m : List Nat) (ga gb : Nat) (xn n : Nat) (dd e : Bool) : ∀ i_ u_ w_ w_', (stands8_tR a b m ga gb xn n dd e) i_ u_ w_ → Below w_.heap.size w_ w_' → (stands8_tR a b m ga gb xn n dd e) i_ u_ w_' := fun i_ u_ w_ w_' h_ hb_ => by
  match i_, h_ with
  | 0, h_ => exact h_
  | 1, h_ => exact h_
  | 2, h_ => exact h_
  | 3, h_ => exact h_
  | 4, h_ => exact h_
  | 5, h_ => exact h_
  | 6, h_ => exact h_
  | 7, h_ => exact h_
  | 8, h_ => exact h_
  | 9, h_ => exact h_
  | 10, h_ => exact h_
  | 11, h_ => exact h_
  | 12, h_ => exact h_
  | 13, h_ => exact h_
  | 14, h_ => exact h_
  | 15, h_ => exact h_
  | 16, h_ => exact h_
  | 17, h_ => exact h_
  | 18, h_ => exact h_
  | 19, h_ => exact h_
  | 20, h_ => exact h_
  | 21, h_ => exact h_
  | 22, h_ => exact h_
  | 23, h_ => exact h_
  | 24, h_ => exact h_
  | 25, h_ => exact h_
  | 26, h_ => exact (Reg.IsRow.below h_ hb_)
  | 27, h_ => exact h_
  | 28, h_ => exact h_
  | 29, h_ => exact h_
  | 30, h_ => exact h_
  | 31, h_ => exact h_
  | 32, h_ => exact h_
  | 33, h_ => exact h_
  | 34, h_ => exact h_
  | (_ + 35), _ => trivial
set_option maxHeartbeats 4000000 in
set_option maxRecDepth 20000 in
theorem stands8_t (a b m : List Nat) (ga gb : Nat) (xn n : Nat) (dd e : Bool) (w0 : World) {s0 s1 s2 s5 s9 s10 s11 s12 s13 s14 s15 s16 s17 s18 s19 s20 s21 s22 s23 s24 s25 s26 s27 s28 s29 s30 s31 s32 s33 s34 s35 s36 s37 s38 s39 s40 s41 s42 s43 s44 s45 s46 s47 s48 s49 s50 s51 s52 s53 s54 s55 s56 s57 s58 s59 s60 s61 s62 s63 s64 s65 s66 s67 s68 s69 s70 s71 s72 s73 s74 s75 s76 s77 s78 s79 s80 s81 s82 s83 s84 s85 s86 s87 s88 s89 s90 s91 s92 s93 s94 s95 s96 s97 s98 s99 s100 : Value}
    (ha : a.length = 16) (hb' : b.length = 16) (hm : m.length = 16) (sa : small a) (sb : small b) (sm : small m) (f0 : ((xn : Int) == 0) = true) (f1 : ((xn : Int) == 1) = dd) (f2 : decide (maxV a b = b) = true) (f3 : lackV a m = n) (f4 : lackV a b = n) (m1 : maxV a b = m)
    (M_ga : ∀ W, Below w0.heap.size w0 W → W.heap[ga]? = some (.cells (vC a) 24 (0, 0)))
    (M_gb : ∀ W, Below w0.heap.size w0 W → W.heap[gb]? = some (.cells (vC b) 24 (0, 0)))
    {Q : Exit → Act → World → Prop}
    (hend : ∀ (w : World) (r93 : Value), Below w0.heap.size w0 w → Q .normal { tmps := #[s0, s1, s2, (Value.pointer (some ⟨ga, 0, none⟩)), (Value.pointer (some ⟨gb, 0, none⟩)), s5, (Value.bool true), (Value.bool true), (Value.int IntKind.i64 (xn : Int)), s9, s10, s11, s12, s13, s14, s15, s16, s17, s18, s19, s20, s21, s22, s23, s24, s25, s26, s27, s28, s29, s30, s31, s32, s33, s34, s35, s36, s37, s38, s39, s40, s41, s42, s43, s44, s45, s46, s47, s48, s49, s50, s51, s52, s53, s54, s55, s56, s57, s58, s59, s60, s61, s62, s63, s64, s65, s66, (Value.bool true), (Value.bool true), (Value.agg (vC a)), (Value.agg (vC b)), (Value.bool true), (Value.int IntKind.i64 (xn : Int)), (Value.bool true), (Value.bool true), undef, undef, (Value.bool true), (Value.bool true), (Value.bool true), (Value.bool true), (Value.agg (vC a)), (Value.agg (vC b)), (Value.bool true), (Value.agg (vC a)), (Value.agg (vC b)), (Value.bool true), (Value.bool true), (Value.bool true), (Value.bool true), (Value.agg (vC a)), (Value.agg (vC a)), (Value.agg (vC b)), r93, (Value.agg (vC m)), (Value.int IntKind.u64 (n : Int)), (Value.agg (vC a)), (Value.agg (vC b)), (Value.int IntKind.u64 (n : Int)), (Value.bool true), (Value.bool true)], defers := [] } w) :
    (Code.region 8 (Reg.opsOf Try.f4 8) true).wp Try.prog Q { tmps := #[s0, s1, s2, (Value.pointer (some ⟨ga, 0, none⟩)), (Value.pointer (some ⟨gb, 0, none⟩)), s5, (Value.bool false), (Value.bool true), (Value.int IntKind.i64 (xn : Int)), s9, s10, s11, s12, s13, s14, s15, s16, s17, s18, s19, s20, s21, s22, s23, s24, s25, s26, s27, s28, s29, s30, s31, s32, s33, s34, s35, s36, s37, s38, s39, s40, s41, s42, s43, s44, s45, s46, s47, s48, s49, s50, s51, s52, s53, s54, s55, s56, s57, s58, s59, s60, s61, s62, s63, s64, s65, s66, s67, s68, s69, s70, s71, s72, s73, s74, s75, s76, s77, s78, s79, s80, s81, s82, s83, s84, s85, s86, s87, s88, s89, s90, s91, s92, s93, s94, s95, s96, s97, s98, s99, s100], defers := [] } w0 := by
  obtain ⟨a0, ha0⟩ : ∃ a0 : Act, a0 = { tmps := #[s0, s1, s2, (Value.pointer (some ⟨ga, 0, none⟩)), (Value.pointer (some ⟨gb, 0, none⟩)), s5, (Value.bool false), (Value.bool true), (Value.int IntKind.i64 (xn : Int)), s9, s10, s11, s12, s13, s14, s15, s16, s17, s18, s19, s20, s21, s22, s23, s24, s25, s26, s27, s28, s29, s30, s31, s32, s33, s34, s35, s36, s37, s38, s39, s40, s41, s42, s43, s44, s45, s46, s47, s48, s49, s50, s51, s52, s53, s54, s55, s56, s57, s58, s59, s60, s61, s62, s63, s64, s65, s66, s67, s68, s69, s70, s71, s72, s73, s74, s75, s76, s77, s78, s79, s80, s81, s82, s83, s84, s85, s86, s87, s88, s89, s90, s91, s92, s93, s94, s95, s96, s97, s98, s99, s100], defers := [] } := ⟨_, rfl⟩
  have hfin : ∀ v : Nat → Value, Reg.gfr (Reg.opsOf Try.f4 8) a0 v (List.range 35) = { tmps := #[s0, s1, s2, (Value.pointer (some ⟨ga, 0, none⟩)), (Value.pointer (some ⟨gb, 0, none⟩)), s5, v 34, (Value.bool true), (Value.int IntKind.i64 (xn : Int)), s9, s10, s11, s12, s13, s14, s15, s16, s17, s18, s19, s20, s21, s22, s23, s24, s25, s26, s27, s28, s29, s30, s31, s32, s33, s34, s35, s36, s37, s38, s39, s40, s41, s42, s43, s44, s45, s46, s47, s48, s49, s50, s51, s52, s53, s54, s55, s56, s57, s58, s59, s60, s61, s62, s63, s64, s65, s66, v 0, v 1, v 2, v 3, v 4, v 5, v 6, v 7, v 8, v 9, v 10, v 11, v 12, v 13, v 14, v 15, v 16, v 17, v 18, v 19, v 20, v 21, v 22, v 23, v 24, v 25, v 26, v 27, v 28, v 29, v 30, v 31, v 32, v 33], defers := [] } := fun v => by rw [ha0]; kernel_rfl
  rw [← ha0]
  have i3 : a0.eval (.tmp 3) = (Value.pointer (some ⟨ga, 0, none⟩)) := by rw [ha0]; rfl
  have i4 : a0.eval (.tmp 4) = (Value.pointer (some ⟨gb, 0, none⟩)) := by rw [ha0]; rfl
  have i6 : a0.eval (.tmp 6) = (Value.bool false) := by rw [ha0]; rfl
  have i7 : a0.eval (.tmp 7) = (Value.bool true) := by rw [ha0]; rfl
  have i8 : a0.eval (.tmp 8) = (Value.int IntKind.i64 (xn : Int)) := by rw [ha0]; rfl
  have hsz : a0.tmps.size = 101 := by rw [ha0]; rfl
  clear ha0
  have hn : (Reg.opsOf Try.f4 8).size = 35 := by kernel_rfl
  have h0 : Reg.OpOK Try.prog (Reg.opsOf Try.f4 8) a0 w0 (stands8_tR a b m ga gb xn n dd e) (fun _ _ _ _ => True) 0 := by
    refine Reg.op_ok2 (fun af => { dst := some 67, op := Op.move (Operand.tmp 7), type := 4, pos := "outright.go:120", after := af, guard := none }) #[] (by kernel_rfl) [] (by kernel_rfl) fun af v W hb hd => ?_
    have e7 := (Reg.gfr_eval0 (ops := (Reg.opsOf Try.f4 8)) (a0 := a0) (v := v) (L := []) 7 (by kernel_rfl)).trans i7
    refine ⟨Reg.wanted_none rfl, ?_⟩
    generalize Reg.gfr (Reg.opsOf Try.f4 8) a0 v [] = G at e7 ⊢
    generalize hρ : G.eval = ρ at e7
    have hρ' : G.eval = ρ := hρ
    refine Reg.go_run (Value.bool true) W ?_ ?_
    · rw [hρ']; simp [execOp, go_sem, e7]
    · exact ⟨Below.refl _ _, rfl⟩
  have h1 : Reg.OpOK Try.prog (Reg.opsOf Try.f4 8) a0 w0 (stands8_tR a b m ga gb xn n dd e) (fun _ _ _ _ => True) 1 := by
    refine Reg.op_ok2 (fun af => { dst := some 68, op := Op.move (Operand.tmp 67), type := 4, pos := "outright.go:120", after := af, guard := none }) #[{ on := 0, ground := Ground.data }] (by kernel_rfl) [0] (by kernel_rfl) fun af v W hb hd => ?_
    have d0 : v 0 = (Value.bool true) := hd 0 (by decide)
    have e67 := (Reg.gfr_eval (ops := (Reg.opsOf Try.f4 8)) (a0 := a0) (v := v) (L := [0]) 67 0 (by kernel_rfl) (by rw [hsz]; omega)).trans d0
    refine ⟨Reg.wanted_none rfl, ?_⟩
    generalize Reg.gfr (Reg.opsOf Try.f4 8) a0 v [0] = G at e67 ⊢
    generalize hρ : G.eval = ρ at e67
    have hρ' : G.eval = ρ := hρ
    refine Reg.go_run (Value.bool true) W ?_ ?_
    · rw [hρ']; simp [execOp, go_sem, e67]
    · exact ⟨Below.refl _ _, rfl⟩
  have h2 : Reg.OpOK Try.prog (Reg.opsOf Try.f4 8) a0 w0 (stands8_tR a b m ga gb xn n dd e) (fun _ _ _ _ => True) 2 := by
    refine Reg.op_ok2 (fun af => { dst := some 69, op := Op.load 24 (Operand.tmp 3), type := 24, pos := "outright.go:120", after := af, guard := some (1, true) }) #[{ on := 1, ground := Ground.guard }] (by kernel_rfl) [1] (by kernel_rfl) fun af v W hb hd => ?_
    have d1 : v 1 = (Value.bool true) := hd 1 (by decide)
    have e3 := (Reg.gfr_eval0 (ops := (Reg.opsOf Try.f4 8)) (a0 := a0) (v := v) (L := [1]) 3 (by kernel_rfl)).trans i3
    have e68 := (Reg.gfr_eval (ops := (Reg.opsOf Try.f4 8)) (a0 := a0) (v := v) (L := [1]) 68 1 (by kernel_rfl) (by rw [hsz]; omega)).trans d1
    refine ⟨Reg.wanted_of rfl (by kernel_rfl) e68, ?_⟩
    generalize Reg.gfr (Reg.opsOf Try.f4 8) a0 v [1] = G at e3 ⊢
    generalize hρ : G.eval = ρ at e3
    have hρ' : G.eval = ρ := hρ
    exact fun K hK => wp_load_row 24 (.tmp 3) rfl ga (by rw [hρ']; exact e3) 24 (vC a) (0, 0) _ (M_ga W hb) Try.underlying24 rfl (vec_size ha) (hK _ _ ⟨Below.refl _ _, rfl⟩)
  have h3 : Reg.OpOK Try.prog (Reg.opsOf Try.f4 8) a0 w0 (stands8_tR a b m ga gb xn n dd e) (fun _ _ _ _ => True) 3 := by
    refine Reg.op_ok2 (fun af => { dst := some 70, op := Op.load 24 (Operand.tmp 4), type := 24, pos := "outright.go:120", after := af, guard := some (1, true) }) #[{ on := 1, ground := Ground.guard }] (by kernel_rfl) [1] (by kernel_rfl) fun af v W hb hd => ?_
    have d1 : v 1 = (Value.bool true) := hd 1 (by decide)
    have e4 := (Reg.gfr_eval0 (ops := (Reg.opsOf Try.f4 8)) (a0 := a0) (v := v) (L := [1]) 4 (by kernel_rfl)).trans i4
    have e68 := (Reg.gfr_eval (ops := (Reg.opsOf Try.f4 8)) (a0 := a0) (v := v) (L := [1]) 68 1 (by kernel_rfl) (by rw [hsz]; omega)).trans d1
    refine ⟨Reg.wanted_of rfl (by kernel_rfl) e68, ?_⟩
    generalize Reg.gfr (Reg.opsOf Try.f4 8) a0 v [1] = G at e4 ⊢
    generalize hρ : G.eval = ρ at e4
    have hρ' : G.eval = ρ := hρ
    exact fun K hK => wp_load_row 24 (.tmp 4) rfl gb (by rw [hρ']; exact e4) 24 (vC b) (0, 0) _ (M_gb W hb) Try.underlying24 rfl (vec_size hb') (hK _ _ ⟨Below.refl _ _, rfl⟩)
  have h4 : Reg.OpOK Try.prog (Reg.opsOf Try.f4 8) a0 w0 (stands8_tR a b m ga gb xn n dd e) (fun _ _ _ _ => True) 4 := by
    refine Reg.op_ok2 (fun af => { dst := some 71, op := Op.call { callee := Callee.value (Operand.func 13), args := #[Operand.tmp 69, Operand.tmp 70], argTypes := #[24, 24] }, type := 4, pos := "outright.go:120", after := af, guard := some (1, true) }) #[{ on := 2, ground := Ground.data }, { on := 3, ground := Ground.data }, { on := 1, ground := Ground.chain }, { on := 1, ground := Ground.guard }] (by kernel_rfl) [2, 3, 1, 1] (by kernel_rfl) fun af v W hb hd => ?_
    have d1 : v 1 = (Value.bool true) := hd 1 (by decide)
    have d2 : v 2 = (Value.agg (vC a)) := hd 2 (by decide)
    have d3 : v 3 = (Value.agg (vC b)) := hd 3 (by decide)
    have e69 := (Reg.gfr_eval (ops := (Reg.opsOf Try.f4 8)) (a0 := a0) (v := v) (L := [2, 3, 1, 1]) 69 2 (by kernel_rfl) (by rw [hsz]; omega)).trans d2
    have e70 := (Reg.gfr_eval (ops := (Reg.opsOf Try.f4 8)) (a0 := a0) (v := v) (L := [2, 3, 1, 1]) 70 3 (by kernel_rfl) (by rw [hsz]; omega)).trans d3
    have e68 := (Reg.gfr_eval (ops := (Reg.opsOf Try.f4 8)) (a0 := a0) (v := v) (L := [2, 3, 1, 1]) 68 1 (by kernel_rfl) (by rw [hsz]; omega)).trans d1
    refine ⟨Reg.wanted_of rfl (by kernel_rfl) e68, ?_⟩
    have eF : ∀ f, (Reg.gfr (Reg.opsOf Try.f4 8) a0 v [2, 3, 1, 1]).eval (.func f) = .func (.func f) #[] #[] := fun _ => rfl
    generalize Reg.gfr (Reg.opsOf Try.f4 8) a0 v [2, 3, 1, 1] = G at e69 e70 eF ⊢
    generalize hρ : G.eval = ρ at e69 e70 eF
    have hρ' : G.eval = ρ := hρ
    refine Reg.go_call 13 #[(Value.agg (vC a)), (Value.agg (vC b))] (by rw [hρ']; simp [execOp, go_sem, e69, e70, eF]) ((atmost_any a b ha hb' W).mono fun e w' he => ?_)
    obtain ⟨rfl, hbb⟩ := he
    exact ⟨_, rfl, hbb, (show _ = _ from by rw [f2])⟩
  have h5 : Reg.OpOK Try.prog (Reg.opsOf Try.f4 8) a0 w0 (stands8_tR a b m ga gb xn n dd e) (fun _ _ _ _ => True) 5 := by
    refine Reg.op_ok2 (fun af => { dst := some 72, op := Op.move (Operand.tmp 8), type := 3, pos := "outright.go:120", after := af, guard := some (1, true) }) #[{ on := 1, ground := Ground.guard }] (by kernel_rfl) [1] (by kernel_rfl) fun af v W hb hd => ?_
    have d1 : v 1 = (Value.bool true) := hd 1 (by decide)
    have e8 := (Reg.gfr_eval0 (ops := (Reg.opsOf Try.f4 8)) (a0 := a0) (v := v) (L := [1]) 8 (by kernel_rfl)).trans i8
    have e68 := (Reg.gfr_eval (ops := (Reg.opsOf Try.f4 8)) (a0 := a0) (v := v) (L := [1]) 68 1 (by kernel_rfl) (by rw [hsz]; omega)).trans d1
    refine ⟨Reg.wanted_of rfl (by kernel_rfl) e68, ?_⟩
    generalize Reg.gfr (Reg.opsOf Try.f4 8) a0 v [1] = G at e8 ⊢
    generalize hρ : G.eval = ρ at e8
    have hρ' : G.eval = ρ := hρ
    refine Reg.go_run (Value.int IntKind.i64 (xn : Int)) W ?_ ?_
    · rw [hρ']; simp [execOp, go_sem, e8]
    · exact ⟨Below.refl _ _, rfl⟩
  have h6 : Reg.OpOK Try.prog (Reg.opsOf Try.f4 8) a0 w0 (stands8_tR a b m ga gb xn n dd e) (fun _ _ _ _ => True) 6 := by
    refine Reg.op_ok2 (fun af => { dst := some 73, op := Op.binOp BinOp.eql 3 (Operand.tmp 72) (Operand.const (Value.int IntKind.i64 0)) 3, type := 4, pos := "outright.go:120", after := af, guard := some (1, true) }) #[{ on := 5, ground := Ground.data }, { on := 1, ground := Ground.guard }] (by kernel_rfl) [5, 1] (by kernel_rfl) fun af v W hb hd => ?_
    have d1 : v 1 = (Value.bool true) := hd 1 (by decide)
    have d5 : v 5 = (Value.int IntKind.i64 (xn : Int)) := hd 5 (by decide)
    have e72 := (Reg.gfr_eval (ops := (Reg.opsOf Try.f4 8)) (a0 := a0) (v := v) (L := [5, 1]) 72 5 (by kernel_rfl) (by rw [hsz]; omega)).trans d5
    have e68 := (Reg.gfr_eval (ops := (Reg.opsOf Try.f4 8)) (a0 := a0) (v := v) (L := [5, 1]) 68 1 (by kernel_rfl) (by rw [hsz]; omega)).trans d1
    refine ⟨Reg.wanted_of rfl (by kernel_rfl) e68, ?_⟩
    have eC : ∀ x, (Reg.gfr (Reg.opsOf Try.f4 8) a0 v [5, 1]).eval (.const x) = x := fun _ => rfl
    generalize Reg.gfr (Reg.opsOf Try.f4 8) a0 v [5, 1] = G at e72 eC ⊢
    generalize hρ : G.eval = ρ at e72 eC
    have hρ' : G.eval = ρ := hρ
    refine Reg.go_run (Value.bool true) W ?_ ?_
    · rw [hρ']; simp [execOp, go_sem, e72, eC, f0]
    · exact ⟨Below.refl _ _, rfl⟩
  have h7 : Reg.OpOK Try.prog (Reg.opsOf Try.f4 8) a0 w0 (stands8_tR a b m ga gb xn n dd e) (fun _ _ _ _ => True) 7 := by
    refine Reg.op_ok2 (fun af => { dst := some 74, op := Op.move (Operand.tmp 73), type := 4, pos := "outright.go:120", after := af, guard := some (1, true) }) #[{ on := 6, ground := Ground.data }, { on := 4, ground := Ground.chain }, { on := 1, ground := Ground.guard }] (by kernel_rfl) [6, 4, 1] (by kernel_rfl) fun af v W hb hd => ?_
    have d1 : v 1 = (Value.bool true) := hd 1 (by decide)
    have d6 : v 6 = (Value.bool true) := hd 6 (by decide)
    have e73 := (Reg.gfr_eval (ops := (Reg.opsOf Try.f4 8)) (a0 := a0) (v := v) (L := [6, 4, 1]) 73 6 (by kernel_rfl) (by rw [hsz]; omega)).trans d6
    have e68 := (Reg.gfr_eval (ops := (Reg.opsOf Try.f4 8)) (a0 := a0) (v := v) (L := [6, 4, 1]) 68 1 (by kernel_rfl) (by rw [hsz]; omega)).trans d1
    refine ⟨Reg.wanted_of rfl (by kernel_rfl) e68, ?_⟩
    generalize Reg.gfr (Reg.opsOf Try.f4 8) a0 v [6, 4, 1] = G at e73 ⊢
    generalize hρ : G.eval = ρ at e73
    have hρ' : G.eval = ρ := hρ
    refine Reg.go_run (Value.bool true) W ?_ ?_
    · rw [hρ']; simp [execOp, go_sem, e73]
    · exact ⟨Below.refl _ _, rfl⟩
  have h8 : Reg.OpOK Try.prog (Reg.opsOf Try.f4 8) a0 w0 (stands8_tR a b m ga gb xn n dd e) (fun _ _ _ _ => True) 8 := by
    refine Reg.op_no2 (fun af => { dst := some 75, op := Op.move (Operand.tmp 8), type := 3, pos := "outright.go:120", after := af, guard := some (7, false) }) #[{ on := 7, ground := Ground.guard }] (by kernel_rfl) [7] (by kernel_rfl) fun af v W hb hd => ?_
    have d7 : v 7 = (Value.bool true) := hd 7 (by decide)
    have e74 := (Reg.gfr_eval (ops := (Reg.opsOf Try.f4 8)) (a0 := a0) (v := v) (L := [7]) 74 7 (by kernel_rfl) (by rw [hsz]; omega)).trans d7
    exact ⟨Reg.wanted_not rfl (by kernel_rfl) e74, rfl, fun _ _ _ _ => ⟨trivial, trivial⟩⟩
  have h9 : Reg.OpOK Try.prog (Reg.opsOf Try.f4 8) a0 w0 (stands8_tR a b m ga gb xn n dd e) (fun _ _ _ _ => True) 9 := by
    refine Reg.op_no2 (fun af => { dst := some 76, op := Op.binOp BinOp.eql 3 (Operand.tmp 75) (Operand.const (Value.int IntKind.i64 1)) 3, type := 4, pos := "outright.go:120", after := af, guard := some (7, false) }) #[{ on := 8, ground := Ground.data }, { on := 7, ground := Ground.guard }] (by kernel_rfl) [8, 7] (by kernel_rfl) fun af v W hb hd => ?_
    have d7 : v 7 = (Value.bool true) := hd 7 (by decide)
    have e74 := (Reg.gfr_eval (ops := (Reg.opsOf Try.f4 8)) (a0 := a0) (v := v) (L := [8, 7]) 74 7 (by kernel_rfl) (by rw [hsz]; omega)).trans d7
    exact ⟨Reg.wanted_not rfl (by kernel_rfl) e74, rfl, fun _ _ _ _ => ⟨trivial, trivial⟩⟩
  have h10 : Reg.OpOK Try.prog (Reg.opsOf Try.f4 8) a0 w0 (stands8_tR a b m ga gb xn n dd e) (fun _ _ _ _ => True) 10 := by
    refine Reg.op_ok2 (fun af => { dst := some 77, op := Op.pick (Operand.tmp 74) (Operand.const (Value.bool true)) (Operand.tmp 76), type := 4, pos := "outright.go:120", after := af, guard := some (1, true) }) #[{ on := 7, ground := Ground.data }, { on := 9, ground := Ground.data }, { on := 1, ground := Ground.guard }] (by kernel_rfl) [7, 9, 1] (by kernel_rfl) fun af v W hb hd => ?_
    have d1 : v 1 = (Value.bool true) := hd 1 (by decide)
    have d7 : v 7 = (Value.bool true) := hd 7 (by decide)
    have d9 : v 9 = undef := hd 9 (by decide)
    have e74 := (Reg.gfr_eval (ops := (Reg.opsOf Try.f4 8)) (a0 := a0) (v := v) (L := [7, 9, 1]) 74 7 (by kernel_rfl) (by rw [hsz]; omega)).trans d7
    have e76 := (Reg.gfr_eval (ops := (Reg.opsOf Try.f4 8)) (a0 := a0) (v := v) (L := [7, 9, 1]) 76 9 (by kernel_rfl) (by rw [hsz]; omega)).trans d9
    have e68 := (Reg.gfr_eval (ops := (Reg.opsOf Try.f4 8)) (a0 := a0) (v := v) (L := [7, 9, 1]) 68 1 (by kernel_rfl) (by rw [hsz]; omega)).trans d1
    refine ⟨Reg.wanted_of rfl (by kernel_rfl) e68, ?_⟩
    have eC : ∀ x, (Reg.gfr (Reg.opsOf Try.f4 8) a0 v [7, 9, 1]).eval (.const x) = x := fun _ => rfl
    generalize Reg.gfr (Reg.opsOf Try.f4 8) a0 v [7, 9, 1] = G at e74 e76 eC ⊢
    generalize hρ : G.eval = ρ at e74 e76 eC
    have hρ' : G.eval = ρ := hρ
    refine Reg.go_run (Value.bool true) W ?_ ?_
    · rw [hρ']; simp [execOp, go_sem, e74, e76, eC]
    · exact ⟨Below.refl _ _, rfl⟩
  have h11 : Reg.OpOK Try.prog (Reg.opsOf Try.f4 8) a0 w0 (stands8_tR a b m ga gb xn n dd e) (fun _ _ _ _ => True) 11 := by
    refine Reg.op_ok2 (fun af => { dst := some 78, op := Op.binOp BinOp.eql 4 (Operand.tmp 71) (Operand.tmp 77) 4, type := 4, pos := "outright.go:120", after := af, guard := some (1, true) }) #[{ on := 4, ground := Ground.data }, { on := 10, ground := Ground.data }, { on := 1, ground := Ground.guard }] (by kernel_rfl) [4, 10, 1] (by kernel_rfl) fun af v W hb hd => ?_
    have d1 : v 1 = (Value.bool true) := hd 1 (by decide)
    have d4 : v 4 = (Value.bool true) := hd 4 (by decide)
    have d10 : v 10 = (Value.bool true) := hd 10 (by decide)
    have e71 := (Reg.gfr_eval (ops := (Reg.opsOf Try.f4 8)) (a0 := a0) (v := v) (L := [4, 10, 1]) 71 4 (by kernel_rfl) (by rw [hsz]; omega)).trans d4
    have e77 := (Reg.gfr_eval (ops := (Reg.opsOf Try.f4 8)) (a0 := a0) (v := v) (L := [4, 10, 1]) 77 10 (by kernel_rfl) (by rw [hsz]; omega)).trans d10
    have e68 := (Reg.gfr_eval (ops := (Reg.opsOf Try.f4 8)) (a0 := a0) (v := v) (L := [4, 10, 1]) 68 1 (by kernel_rfl) (by rw [hsz]; omega)).trans d1
    refine ⟨Reg.wanted_of rfl (by kernel_rfl) e68, ?_⟩
    generalize Reg.gfr (Reg.opsOf Try.f4 8) a0 v [4, 10, 1] = G at e71 e77 ⊢
    generalize hρ : G.eval = ρ at e71 e77
    have hρ' : G.eval = ρ := hρ
    refine Reg.go_run (Value.bool true) W ?_ ?_
    · rw [hρ']; simp [execOp, go_sem, e71, e77]
    · exact ⟨Below.refl _ _, rfl⟩
  have h12 : Reg.OpOK Try.prog (Reg.opsOf Try.f4 8) a0 w0 (stands8_tR a b m ga gb xn n dd e) (fun _ _ _ _ => True) 12 := by
    refine Reg.op_ok2 (fun af => { dst := some 79, op := Op.pick (Operand.tmp 68) (Operand.tmp 78) (Operand.const (Value.bool false)), type := 4, pos := "outright.go:120", after := af, guard := none }) #[{ on := 1, ground := Ground.data }, { on := 11, ground := Ground.data }] (by kernel_rfl) [1, 11] (by kernel_rfl) fun af v W hb hd => ?_
    have d1 : v 1 = (Value.bool true) := hd 1 (by decide)
    have d11 : v 11 = (Value.bool true) := hd 11 (by decide)
    have e68 := (Reg.gfr_eval (ops := (Reg.opsOf Try.f4 8)) (a0 := a0) (v := v) (L := [1, 11]) 68 1 (by kernel_rfl) (by rw [hsz]; omega)).trans d1
    have e78 := (Reg.gfr_eval (ops := (Reg.opsOf Try.f4 8)) (a0 := a0) (v := v) (L := [1, 11]) 78 11 (by kernel_rfl) (by rw [hsz]; omega)).trans d11
    refine ⟨Reg.wanted_none rfl, ?_⟩
    have eC : ∀ x, (Reg.gfr (Reg.opsOf Try.f4 8) a0 v [1, 11]).eval (.const x) = x := fun _ => rfl
    generalize Reg.gfr (Reg.opsOf Try.f4 8) a0 v [1, 11] = G at e68 e78 eC ⊢
    generalize hρ : G.eval = ρ at e68 e78 eC
    have hρ' : G.eval = ρ := hρ
    refine Reg.go_run (Value.bool true) W ?_ ?_
    · rw [hρ']; simp [execOp, go_sem, e68, e78, eC]
    · exact ⟨Below.refl _ _, rfl⟩
  have h13 : Reg.OpOK Try.prog (Reg.opsOf Try.f4 8) a0 w0 (stands8_tR a b m ga gb xn n dd e) (fun _ _ _ _ => True) 13 := by
    refine Reg.op_ok2 (fun af => { dst := some 80, op := Op.move (Operand.tmp 79), type := 4, pos := "outright.go:120", after := af, guard := none }) #[{ on := 12, ground := Ground.data }, { on := 7, ground := Ground.chain }] (by kernel_rfl) [12, 7] (by kernel_rfl) fun af v W hb hd => ?_
    have d12 : v 12 = (Value.bool true) := hd 12 (by decide)
    have e79 := (Reg.gfr_eval (ops := (Reg.opsOf Try.f4 8)) (a0 := a0) (v := v) (L := [12, 7]) 79 12 (by kernel_rfl) (by rw [hsz]; omega)).trans d12
    refine ⟨Reg.wanted_none rfl, ?_⟩
    generalize Reg.gfr (Reg.opsOf Try.f4 8) a0 v [12, 7] = G at e79 ⊢
    generalize hρ : G.eval = ρ at e79
    have hρ' : G.eval = ρ := hρ
    refine Reg.go_run (Value.bool true) W ?_ ?_
    · rw [hρ']; simp [execOp, go_sem, e79]
    · exact ⟨Below.refl _ _, rfl⟩
  have h14 : Reg.OpOK Try.prog (Reg.opsOf Try.f4 8) a0 w0 (stands8_tR a b m ga gb xn n dd e) (fun _ _ _ _ => True) 14 := by
    refine Reg.op_ok2 (fun af => { dst := some 81, op := Op.load 24 (Operand.tmp 3), type := 24, pos := "outright.go:120", after := af, guard := some (13, true) }) #[{ on := 13, ground := Ground.guard }] (by kernel_rfl) [13] (by kernel_rfl) fun af v W hb hd => ?_
    have d13 : v 13 = (Value.bool true) := hd 13 (by decide)
    have e3 := (Reg.gfr_eval0 (ops := (Reg.opsOf Try.f4 8)) (a0 := a0) (v := v) (L := [13]) 3 (by kernel_rfl)).trans i3
    have e80 := (Reg.gfr_eval (ops := (Reg.opsOf Try.f4 8)) (a0 := a0) (v := v) (L := [13]) 80 13 (by kernel_rfl) (by rw [hsz]; omega)).trans d13
    refine ⟨Reg.wanted_of rfl (by kernel_rfl) e80, ?_⟩
    generalize Reg.gfr (Reg.opsOf Try.f4 8) a0 v [13] = G at e3 ⊢
    generalize hρ : G.eval = ρ at e3
    have hρ' : G.eval = ρ := hρ
    exact fun K hK => wp_load_row 24 (.tmp 3) rfl ga (by rw [hρ']; exact e3) 24 (vC a) (0, 0) _ (M_ga W hb) Try.underlying24 rfl (vec_size ha) (hK _ _ ⟨Below.refl _ _, rfl⟩)
  have h15 : Reg.OpOK Try.prog (Reg.opsOf Try.f4 8) a0 w0 (stands8_tR a b m ga gb xn n dd e) (fun _ _ _ _ => True) 15 := by
    refine Reg.op_ok2 (fun af => { dst := some 82, op := Op.load 24 (Operand.tmp 4), type := 24, pos := "outright.go:120", after := af, guard := some (13, true) }) #[{ on := 13, ground := Ground.guard }] (by kernel_rfl) [13] (by kernel_rfl) fun af v W hb hd => ?_
    have d13 : v 13 = (Value.bool true) := hd 13 (by decide)
    have e4 := (Reg.gfr_eval0 (ops := (Reg.opsOf Try.f4 8)) (a0 := a0) (v := v) (L := [13]) 4 (by kernel_rfl)).trans i4
    have e80 := (Reg.gfr_eval (ops := (Reg.opsOf Try.f4 8)) (a0 := a0) (v := v) (L := [13]) 80 13 (by kernel_rfl) (by rw [hsz]; omega)).trans d13
    refine ⟨Reg.wanted_of rfl (by kernel_rfl) e80, ?_⟩
    generalize Reg.gfr (Reg.opsOf Try.f4 8) a0 v [13] = G at e4 ⊢
    generalize hρ : G.eval = ρ at e4
    have hρ' : G.eval = ρ := hρ
    exact fun K hK => wp_load_row 24 (.tmp 4) rfl gb (by rw [hρ']; exact e4) 24 (vC b) (0, 0) _ (M_gb W hb) Try.underlying24 rfl (vec_size hb') (hK _ _ ⟨Below.refl _ _, rfl⟩)
  have h16 : Reg.OpOK Try.prog (Reg.opsOf Try.f4 8) a0 w0 (stands8_tR a b m ga gb xn n dd e) (fun _ _ _ _ => True) 16 := by
    refine Reg.op_ok2 (fun af => { dst := some 83, op := Op.call { callee := Callee.value (Operand.func 16), args := #[Operand.tmp 81, Operand.tmp 82], argTypes := #[24, 24] }, type := 4, pos := "outright.go:120", after := af, guard := some (13, true) }) #[{ on := 14, ground := Ground.data }, { on := 15, ground := Ground.data }, { on := 13, ground := Ground.chain }, { on := 13, ground := Ground.guard }] (by kernel_rfl) [14, 15, 13, 13] (by kernel_rfl) fun af v W hb hd => ?_
    have d13 : v 13 = (Value.bool true) := hd 13 (by decide)
    have d14 : v 14 = (Value.agg (vC a)) := hd 14 (by decide)
    have d15 : v 15 = (Value.agg (vC b)) := hd 15 (by decide)
    have e81 := (Reg.gfr_eval (ops := (Reg.opsOf Try.f4 8)) (a0 := a0) (v := v) (L := [14, 15, 13, 13]) 81 14 (by kernel_rfl) (by rw [hsz]; omega)).trans d14
    have e82 := (Reg.gfr_eval (ops := (Reg.opsOf Try.f4 8)) (a0 := a0) (v := v) (L := [14, 15, 13, 13]) 82 15 (by kernel_rfl) (by rw [hsz]; omega)).trans d15
    have e80 := (Reg.gfr_eval (ops := (Reg.opsOf Try.f4 8)) (a0 := a0) (v := v) (L := [14, 15, 13, 13]) 80 13 (by kernel_rfl) (by rw [hsz]; omega)).trans d13
    refine ⟨Reg.wanted_of rfl (by kernel_rfl) e80, ?_⟩
    have eF : ∀ f, (Reg.gfr (Reg.opsOf Try.f4 8) a0 v [14, 15, 13, 13]).eval (.func f) = .func (.func f) #[] #[] := fun _ => rfl
    generalize Reg.gfr (Reg.opsOf Try.f4 8) a0 v [14, 15, 13, 13] = G at e81 e82 eF ⊢
    generalize hρ : G.eval = ρ at e81 e82 eF
    have hρ' : G.eval = ρ := hρ
    refine Reg.go_call 16 #[(Value.agg (vC a)), (Value.agg (vC b))] (by rw [hρ']; simp [execOp, go_sem, e81, e82, eF]) ((ratmost_any a b ha hb' W).mono fun e w' he => ?_)
    obtain ⟨rfl, hbb⟩ := he
    exact ⟨_, rfl, hbb, (show _ = _ from by rw [f2])⟩
  have h17 : Reg.OpOK Try.prog (Reg.opsOf Try.f4 8) a0 w0 (stands8_tR a b m ga gb xn n dd e) (fun _ _ _ _ => True) 17 := by
    refine Reg.op_ok2 (fun af => { dst := some 84, op := Op.load 24 (Operand.tmp 3), type := 24, pos := "outright.go:120", after := af, guard := some (13, true) }) #[{ on := 13, ground := Ground.guard }] (by kernel_rfl) [13] (by kernel_rfl) fun af v W hb hd => ?_
    have d13 : v 13 = (Value.bool true) := hd 13 (by decide)
    have e3 := (Reg.gfr_eval0 (ops := (Reg.opsOf Try.f4 8)) (a0 := a0) (v := v) (L := [13]) 3 (by kernel_rfl)).trans i3
    have e80 := (Reg.gfr_eval (ops := (Reg.opsOf Try.f4 8)) (a0 := a0) (v := v) (L := [13]) 80 13 (by kernel_rfl) (by rw [hsz]; omega)).trans d13
    refine ⟨Reg.wanted_of rfl (by kernel_rfl) e80, ?_⟩
    generalize Reg.gfr (Reg.opsOf Try.f4 8) a0 v [13] = G at e3 ⊢
    generalize hρ : G.eval = ρ at e3
    have hρ' : G.eval = ρ := hρ
    exact fun K hK => wp_load_row 24 (.tmp 3) rfl ga (by rw [hρ']; exact e3) 24 (vC a) (0, 0) _ (M_ga W hb) Try.underlying24 rfl (vec_size ha) (hK _ _ ⟨Below.refl _ _, rfl⟩)
  have h18 : Reg.OpOK Try.prog (Reg.opsOf Try.f4 8) a0 w0 (stands8_tR a b m ga gb xn n dd e) (fun _ _ _ _ => True) 18 := by
    refine Reg.op_ok2 (fun af => { dst := some 85, op := Op.load 24 (Operand.tmp 4), type := 24, pos := "outright.go:120", after := af, guard := some (13, true) }) #[{ on := 13, ground := Ground.guard }] (by kernel_rfl) [13] (by kernel_rfl) fun af v W hb hd => ?_
    have d13 : v 13 = (Value.bool true) := hd 13 (by decide)
    have e4 := (Reg.gfr_eval0 (ops := (Reg.opsOf Try.f4 8)) (a0 := a0) (v := v) (L := [13]) 4 (by kernel_rfl)).trans i4
    have e80 := (Reg.gfr_eval (ops := (Reg.opsOf Try.f4 8)) (a0 := a0) (v := v) (L := [13]) 80 13 (by kernel_rfl) (by rw [hsz]; omega)).trans d13
    refine ⟨Reg.wanted_of rfl (by kernel_rfl) e80, ?_⟩
    generalize Reg.gfr (Reg.opsOf Try.f4 8) a0 v [13] = G at e4 ⊢
    generalize hρ : G.eval = ρ at e4
    have hρ' : G.eval = ρ := hρ
    exact fun K hK => wp_load_row 24 (.tmp 4) rfl gb (by rw [hρ']; exact e4) 24 (vC b) (0, 0) _ (M_gb W hb) Try.underlying24 rfl (vec_size hb') (hK _ _ ⟨Below.refl _ _, rfl⟩)
  have h19 : Reg.OpOK Try.prog (Reg.opsOf Try.f4 8) a0 w0 (stands8_tR a b m ga gb xn n dd e) (fun _ _ _ _ => True) 19 := by
    refine Reg.op_ok2 (fun af => { dst := some 86, op := Op.call { callee := Callee.value (Operand.func 13), args := #[Operand.tmp 84, Operand.tmp 85], argTypes := #[24, 24] }, type := 4, pos := "outright.go:120", after := af, guard := some (13, true) }) #[{ on := 17, ground := Ground.data }, { on := 18, ground := Ground.data }, { on := 16, ground := Ground.chain }, { on := 13, ground := Ground.guard }] (by kernel_rfl) [17, 18, 16, 13] (by kernel_rfl) fun af v W hb hd => ?_
    have d13 : v 13 = (Value.bool true) := hd 13 (by decide)
    have d17 : v 17 = (Value.agg (vC a)) := hd 17 (by decide)
    have d18 : v 18 = (Value.agg (vC b)) := hd 18 (by decide)
    have e84 := (Reg.gfr_eval (ops := (Reg.opsOf Try.f4 8)) (a0 := a0) (v := v) (L := [17, 18, 16, 13]) 84 17 (by kernel_rfl) (by rw [hsz]; omega)).trans d17
    have e85 := (Reg.gfr_eval (ops := (Reg.opsOf Try.f4 8)) (a0 := a0) (v := v) (L := [17, 18, 16, 13]) 85 18 (by kernel_rfl) (by rw [hsz]; omega)).trans d18
    have e80 := (Reg.gfr_eval (ops := (Reg.opsOf Try.f4 8)) (a0 := a0) (v := v) (L := [17, 18, 16, 13]) 80 13 (by kernel_rfl) (by rw [hsz]; omega)).trans d13
    refine ⟨Reg.wanted_of rfl (by kernel_rfl) e80, ?_⟩
    have eF : ∀ f, (Reg.gfr (Reg.opsOf Try.f4 8) a0 v [17, 18, 16, 13]).eval (.func f) = .func (.func f) #[] #[] := fun _ => rfl
    generalize Reg.gfr (Reg.opsOf Try.f4 8) a0 v [17, 18, 16, 13] = G at e84 e85 eF ⊢
    generalize hρ : G.eval = ρ at e84 e85 eF
    have hρ' : G.eval = ρ := hρ
    refine Reg.go_call 13 #[(Value.agg (vC a)), (Value.agg (vC b))] (by rw [hρ']; simp [execOp, go_sem, e84, e85, eF]) ((atmost_any a b ha hb' W).mono fun e w' he => ?_)
    obtain ⟨rfl, hbb⟩ := he
    exact ⟨_, rfl, hbb, (show _ = _ from by rw [f2])⟩
  have h20 : Reg.OpOK Try.prog (Reg.opsOf Try.f4 8) a0 w0 (stands8_tR a b m ga gb xn n dd e) (fun _ _ _ _ => True) 20 := by
    refine Reg.op_ok2 (fun af => { dst := some 87, op := Op.binOp BinOp.eql 4 (Operand.tmp 83) (Operand.tmp 86) 4, type := 4, pos := "outright.go:120", after := af, guard := some (13, true) }) #[{ on := 16, ground := Ground.data }, { on := 19, ground := Ground.data }, { on := 13, ground := Ground.guard }] (by kernel_rfl) [16, 19, 13] (by kernel_rfl) fun af v W hb hd => ?_
    have d13 : v 13 = (Value.bool true) := hd 13 (by decide)
    have d16 : v 16 = (Value.bool true) := hd 16 (by decide)
    have d19 : v 19 = (Value.bool true) := hd 19 (by decide)
    have e83 := (Reg.gfr_eval (ops := (Reg.opsOf Try.f4 8)) (a0 := a0) (v := v) (L := [16, 19, 13]) 83 16 (by kernel_rfl) (by rw [hsz]; omega)).trans d16
    have e86 := (Reg.gfr_eval (ops := (Reg.opsOf Try.f4 8)) (a0 := a0) (v := v) (L := [16, 19, 13]) 86 19 (by kernel_rfl) (by rw [hsz]; omega)).trans d19
    have e80 := (Reg.gfr_eval (ops := (Reg.opsOf Try.f4 8)) (a0 := a0) (v := v) (L := [16, 19, 13]) 80 13 (by kernel_rfl) (by rw [hsz]; omega)).trans d13
    refine ⟨Reg.wanted_of rfl (by kernel_rfl) e80, ?_⟩
    generalize Reg.gfr (Reg.opsOf Try.f4 8) a0 v [16, 19, 13] = G at e83 e86 ⊢
    generalize hρ : G.eval = ρ at e83 e86
    have hρ' : G.eval = ρ := hρ
    refine Reg.go_run (Value.bool true) W ?_ ?_
    · rw [hρ']; simp [execOp, go_sem, e83, e86]
    · exact ⟨Below.refl _ _, rfl⟩
  have h21 : Reg.OpOK Try.prog (Reg.opsOf Try.f4 8) a0 w0 (stands8_tR a b m ga gb xn n dd e) (fun _ _ _ _ => True) 21 := by
    refine Reg.op_ok2 (fun af => { dst := some 88, op := Op.pick (Operand.tmp 80) (Operand.tmp 87) (Operand.const (Value.bool false)), type := 4, pos := "outright.go:120", after := af, guard := none }) #[{ on := 13, ground := Ground.data }, { on := 20, ground := Ground.data }] (by kernel_rfl) [13, 20] (by kernel_rfl) fun af v W hb hd => ?_
    have d13 : v 13 = (Value.bool true) := hd 13 (by decide)
    have d20 : v 20 = (Value.bool true) := hd 20 (by decide)
    have e80 := (Reg.gfr_eval (ops := (Reg.opsOf Try.f4 8)) (a0 := a0) (v := v) (L := [13, 20]) 80 13 (by kernel_rfl) (by rw [hsz]; omega)).trans d13
    have e87 := (Reg.gfr_eval (ops := (Reg.opsOf Try.f4 8)) (a0 := a0) (v := v) (L := [13, 20]) 87 20 (by kernel_rfl) (by rw [hsz]; omega)).trans d20
    refine ⟨Reg.wanted_none rfl, ?_⟩
    have eC : ∀ x, (Reg.gfr (Reg.opsOf Try.f4 8) a0 v [13, 20]).eval (.const x) = x := fun _ => rfl
    generalize Reg.gfr (Reg.opsOf Try.f4 8) a0 v [13, 20] = G at e80 e87 eC ⊢
    generalize hρ : G.eval = ρ at e80 e87 eC
    have hρ' : G.eval = ρ := hρ
    refine Reg.go_run (Value.bool true) W ?_ ?_
    · rw [hρ']; simp [execOp, go_sem, e80, e87, eC]
    · exact ⟨Below.refl _ _, rfl⟩
  have h22 : Reg.OpOK Try.prog (Reg.opsOf Try.f4 8) a0 w0 (stands8_tR a b m ga gb xn n dd e) (fun _ _ _ _ => True) 22 := by
    refine Reg.op_ok2 (fun af => { dst := some 89, op := Op.move (Operand.tmp 88), type := 4, pos := "outright.go:120", after := af, guard := none }) #[{ on := 21, ground := Ground.data }, { on := 19, ground := Ground.chain }] (by kernel_rfl) [21, 19] (by kernel_rfl) fun af v W hb hd => ?_
    have d21 : v 21 = (Value.bool true) := hd 21 (by decide)
    have e88 := (Reg.gfr_eval (ops := (Reg.opsOf Try.f4 8)) (a0 := a0) (v := v) (L := [21, 19]) 88 21 (by kernel_rfl) (by rw [hsz]; omega)).trans d21
    refine ⟨Reg.wanted_none rfl, ?_⟩
    generalize Reg.gfr (Reg.opsOf Try.f4 8) a0 v [21, 19] = G at e88 ⊢
    generalize hρ : G.eval = ρ at e88
    have hρ' : G.eval = ρ := hρ
    refine Reg.go_run (Value.bool true) W ?_ ?_
    · rw [hρ']; simp [execOp, go_sem, e88]
    · exact ⟨Below.refl _ _, rfl⟩
  have h23 : Reg.OpOK Try.prog (Reg.opsOf Try.f4 8) a0 w0 (stands8_tR a b m ga gb xn n dd e) (fun _ _ _ _ => True) 23 := by
    refine Reg.op_ok2 (fun af => { dst := some 90, op := Op.load 24 (Operand.tmp 3), type := 24, pos := "outright.go:120", after := af, guard := some (22, true) }) #[{ on := 22, ground := Ground.guard }] (by kernel_rfl) [22] (by kernel_rfl) fun af v W hb hd => ?_
    have d22 : v 22 = (Value.bool true) := hd 22 (by decide)
    have e3 := (Reg.gfr_eval0 (ops := (Reg.opsOf Try.f4 8)) (a0 := a0) (v := v) (L := [22]) 3 (by kernel_rfl)).trans i3
    have e89 := (Reg.gfr_eval (ops := (Reg.opsOf Try.f4 8)) (a0 := a0) (v := v) (L := [22]) 89 22 (by kernel_rfl) (by rw [hsz]; omega)).trans d22
    refine ⟨Reg.wanted_of rfl (by kernel_rfl) e89, ?_⟩
    generalize Reg.gfr (Reg.opsOf Try.f4 8) a0 v [22] = G at e3 ⊢
    generalize hρ : G.eval = ρ at e3
    have hρ' : G.eval = ρ := hρ
    exact fun K hK => wp_load_row 24 (.tmp 3) rfl ga (by rw [hρ']; exact e3) 24 (vC a) (0, 0) _ (M_ga W hb) Try.underlying24 rfl (vec_size ha) (hK _ _ ⟨Below.refl _ _, rfl⟩)
  have h24 : Reg.OpOK Try.prog (Reg.opsOf Try.f4 8) a0 w0 (stands8_tR a b m ga gb xn n dd e) (fun _ _ _ _ => True) 24 := by
    refine Reg.op_ok2 (fun af => { dst := some 91, op := Op.load 24 (Operand.tmp 3), type := 24, pos := "outright.go:120", after := af, guard := some (22, true) }) #[{ on := 22, ground := Ground.guard }] (by kernel_rfl) [22] (by kernel_rfl) fun af v W hb hd => ?_
    have d22 : v 22 = (Value.bool true) := hd 22 (by decide)
    have e3 := (Reg.gfr_eval0 (ops := (Reg.opsOf Try.f4 8)) (a0 := a0) (v := v) (L := [22]) 3 (by kernel_rfl)).trans i3
    have e89 := (Reg.gfr_eval (ops := (Reg.opsOf Try.f4 8)) (a0 := a0) (v := v) (L := [22]) 89 22 (by kernel_rfl) (by rw [hsz]; omega)).trans d22
    refine ⟨Reg.wanted_of rfl (by kernel_rfl) e89, ?_⟩
    generalize Reg.gfr (Reg.opsOf Try.f4 8) a0 v [22] = G at e3 ⊢
    generalize hρ : G.eval = ρ at e3
    have hρ' : G.eval = ρ := hρ
    exact fun K hK => wp_load_row 24 (.tmp 3) rfl ga (by rw [hρ']; exact e3) 24 (vC a) (0, 0) _ (M_ga W hb) Try.underlying24 rfl (vec_size ha) (hK _ _ ⟨Below.refl _ _, rfl⟩)
  have h25 : Reg.OpOK Try.prog (Reg.opsOf Try.f4 8) a0 w0 (stands8_tR a b m ga gb xn n dd e) (fun _ _ _ _ => True) 25 := by
    refine Reg.op_ok2 (fun af => { dst := some 92, op := Op.load 24 (Operand.tmp 4), type := 24, pos := "outright.go:120", after := af, guard := some (22, true) }) #[{ on := 22, ground := Ground.guard }] (by kernel_rfl) [22] (by kernel_rfl) fun af v W hb hd => ?_
    have d22 : v 22 = (Value.bool true) := hd 22 (by decide)
    have e4 := (Reg.gfr_eval0 (ops := (Reg.opsOf Try.f4 8)) (a0 := a0) (v := v) (L := [22]) 4 (by kernel_rfl)).trans i4
    have e89 := (Reg.gfr_eval (ops := (Reg.opsOf Try.f4 8)) (a0 := a0) (v := v) (L := [22]) 89 22 (by kernel_rfl) (by rw [hsz]; omega)).trans d22
    refine ⟨Reg.wanted_of rfl (by kernel_rfl) e89, ?_⟩
    generalize Reg.gfr (Reg.opsOf Try.f4 8) a0 v [22] = G at e4 ⊢
    generalize hρ : G.eval = ρ at e4
    have hρ' : G.eval = ρ := hρ
    exact fun K hK => wp_load_row 24 (.tmp 4) rfl gb (by rw [hρ']; exact e4) 24 (vC b) (0, 0) _ (M_gb W hb) Try.underlying24 rfl (vec_size hb') (hK _ _ ⟨Below.refl _ _, rfl⟩)
  have h26 : Reg.OpOK Try.prog (Reg.opsOf Try.f4 8) a0 w0 (stands8_tR a b m ga gb xn n dd e) (fun _ _ _ _ => True) 26 := by
    refine Reg.op_ok2 (fun af => { dst := some 93, op := Op.buildSlice 43 2 #[(0, Operand.tmp 91), (1, Operand.tmp 92)], type := 43, pos := "outright.go:120", after := af, guard := some (22, true) }) #[{ on := 24, ground := Ground.data }, { on := 25, ground := Ground.data }, { on := 22, ground := Ground.guard }] (by kernel_rfl) [24, 25, 22] (by kernel_rfl) fun af v W hb hd => ?_
    have d22 : v 22 = (Value.bool true) := hd 22 (by decide)
    have d24 : v 24 = (Value.agg (vC a)) := hd 24 (by decide)
    have d25 : v 25 = (Value.agg (vC b)) := hd 25 (by decide)
    have e91 := (Reg.gfr_eval (ops := (Reg.opsOf Try.f4 8)) (a0 := a0) (v := v) (L := [24, 25, 22]) 91 24 (by kernel_rfl) (by rw [hsz]; omega)).trans d24
    have e92 := (Reg.gfr_eval (ops := (Reg.opsOf Try.f4 8)) (a0 := a0) (v := v) (L := [24, 25, 22]) 92 25 (by kernel_rfl) (by rw [hsz]; omega)).trans d25
    have e89 := (Reg.gfr_eval (ops := (Reg.opsOf Try.f4 8)) (a0 := a0) (v := v) (L := [24, 25, 22]) 89 22 (by kernel_rfl) (by rw [hsz]; omega)).trans d22
    refine ⟨Reg.wanted_of rfl (by kernel_rfl) e89, ?_⟩
    generalize Reg.gfr (Reg.opsOf Try.f4 8) a0 v [24, 25, 22] = G at e91 e92 ⊢
    generalize hρ : G.eval = ρ at e91 e92
    have hρ' : G.eval = ρ := hρ
    exact Reg.go_build 43 24 2 _ rfl Try.underlying43 _ (by rw [hρ']; exact built_vecs [a, b] (by simp [ha, hb']) (by simp) (by simp) _ (by simp [e91, e92])) ⟨(Below.refl _ W).alloc (Nat.le_refl _) _, ⟨_, rfl, heap_alloc_new _ _⟩⟩
  have h27 : Reg.OpOK Try.prog (Reg.opsOf Try.f4 8) a0 w0 (stands8_tR a b m ga gb xn n dd e) (fun _ _ _ _ => True) 27 := by
    refine Reg.op_ok2 (fun af => { dst := some 94, op := Op.call { callee := Callee.value (Operand.func 11), args := #[Operand.tmp 93], argTypes := #[43] }, type := 24, pos := "outright.go:120", after := af, guard := some (22, true) }) #[{ on := 26, ground := Ground.data }, { on := 22, ground := Ground.chain }, { on := 22, ground := Ground.guard }] (by kernel_rfl) [26, 22, 22] (by kernel_rfl) fun af v W hb hd => ?_
    have d22 : v 22 = (Value.bool true) := hd 22 (by decide)
    have d26 : (Reg.IsRow 24 (vecs [a, b]).toArray 2) (v 26) W := hd 26 (by decide)
    have e93 := Reg.gfr_eval (ops := (Reg.opsOf Try.f4 8)) (a0 := a0) (v := v) (L := [26, 22, 22]) 93 26 (by kernel_rfl) (by rw [hsz]; omega)
    have e89 := (Reg.gfr_eval (ops := (Reg.opsOf Try.f4 8)) (a0 := a0) (v := v) (L := [26, 22, 22]) 89 22 (by kernel_rfl) (by rw [hsz]; omega)).trans d22
    obtain ⟨gr, hg1, hg2⟩ := d26
    rw [hg1] at e93
    refine ⟨Reg.wanted_of rfl (by kernel_rfl) e89, ?_⟩
    have eF : ∀ f, (Reg.gfr (Reg.opsOf Try.f4 8) a0 v [26, 22, 22]).eval (.func f) = .func (.func f) #[] #[] := fun _ => rfl
    generalize Reg.gfr (Reg.opsOf Try.f4 8) a0 v [26, 22, 22] = G at e93 eF ⊢
    generalize hρ : G.eval = ρ at e93 eF
    have hρ' : G.eval = ρ := hρ
    refine Reg.go_call 11 #[(Value.slice (some ⟨gr, 0, none⟩) 2 2)] (by rw [hρ']; simp [execOp, go_sem, e93, eF]) ((merge2 a b ha hb' W gr hg2).mono fun e w' he => ?_)
    obtain ⟨rfl, hbb⟩ := he
    exact ⟨_, rfl, hbb, (show _ = _ from by rw [m1])⟩
  have h28 : Reg.OpOK Try.prog (Reg.opsOf Try.f4 8) a0 w0 (stands8_tR a b m ga gb xn n dd e) (fun _ _ _ _ => True) 28 := by
    refine Reg.op_ok2 (fun af => { dst := some 95, op := Op.call { callee := Callee.value (Operand.func 15), args := #[Operand.tmp 90, Operand.tmp 94], argTypes := #[24, 24] }, type := 31, pos := "outright.go:120", after := af, guard := some (22, true) }) #[{ on := 23, ground := Ground.data }, { on := 27, ground := Ground.data }, { on := 27, ground := Ground.chain }, { on := 22, ground := Ground.guard }] (by kernel_rfl) [23, 27, 27, 22] (by kernel_rfl) fun af v W hb hd => ?_
    have d22 : v 22 = (Value.bool true) := hd 22 (by decide)
    have d23 : v 23 = (Value.agg (vC a)) := hd 23 (by decide)
    have d27 : v 27 = (Value.agg (vC m)) := hd 27 (by decide)
    have e90 := (Reg.gfr_eval (ops := (Reg.opsOf Try.f4 8)) (a0 := a0) (v := v) (L := [23, 27, 27, 22]) 90 23 (by kernel_rfl) (by rw [hsz]; omega)).trans d23
    have e94 := (Reg.gfr_eval (ops := (Reg.opsOf Try.f4 8)) (a0 := a0) (v := v) (L := [23, 27, 27, 22]) 94 27 (by kernel_rfl) (by rw [hsz]; omega)).trans d27
    have e89 := (Reg.gfr_eval (ops := (Reg.opsOf Try.f4 8)) (a0 := a0) (v := v) (L := [23, 27, 27, 22]) 89 22 (by kernel_rfl) (by rw [hsz]; omega)).trans d22
    refine ⟨Reg.wanted_of rfl (by kernel_rfl) e89, ?_⟩
    have eF : ∀ f, (Reg.gfr (Reg.opsOf Try.f4 8) a0 v [23, 27, 27, 22]).eval (.func f) = .func (.func f) #[] #[] := fun _ => rfl
    generalize Reg.gfr (Reg.opsOf Try.f4 8) a0 v [23, 27, 27, 22] = G at e90 e94 eF ⊢
    generalize hρ : G.eval = ρ at e90 e94 eF
    have hρ' : G.eval = ρ := hρ
    refine Reg.go_call 15 #[(Value.agg (vC a)), (Value.agg (vC m))] (by rw [hρ']; simp [execOp, go_sem, e90, e94, eF]) ((lacks_any a m ha hm sa sm W).mono fun e w' he => ?_)
    obtain ⟨rfl, hbb⟩ := he
    exact ⟨_, rfl, hbb, (show _ = _ from by rw [f3])⟩
  have h29 : Reg.OpOK Try.prog (Reg.opsOf Try.f4 8) a0 w0 (stands8_tR a b m ga gb xn n dd e) (fun _ _ _ _ => True) 29 := by
    refine Reg.op_ok2 (fun af => { dst := some 96, op := Op.load 24 (Operand.tmp 3), type := 24, pos := "outright.go:120", after := af, guard := some (22, true) }) #[{ on := 22, ground := Ground.guard }] (by kernel_rfl) [22] (by kernel_rfl) fun af v W hb hd => ?_
    have d22 : v 22 = (Value.bool true) := hd 22 (by decide)
    have e3 := (Reg.gfr_eval0 (ops := (Reg.opsOf Try.f4 8)) (a0 := a0) (v := v) (L := [22]) 3 (by kernel_rfl)).trans i3
    have e89 := (Reg.gfr_eval (ops := (Reg.opsOf Try.f4 8)) (a0 := a0) (v := v) (L := [22]) 89 22 (by kernel_rfl) (by rw [hsz]; omega)).trans d22
    refine ⟨Reg.wanted_of rfl (by kernel_rfl) e89, ?_⟩
    generalize Reg.gfr (Reg.opsOf Try.f4 8) a0 v [22] = G at e3 ⊢
    generalize hρ : G.eval = ρ at e3
    have hρ' : G.eval = ρ := hρ
    exact fun K hK => wp_load_row 24 (.tmp 3) rfl ga (by rw [hρ']; exact e3) 24 (vC a) (0, 0) _ (M_ga W hb) Try.underlying24 rfl (vec_size ha) (hK _ _ ⟨Below.refl _ _, rfl⟩)
  have h30 : Reg.OpOK Try.prog (Reg.opsOf Try.f4 8) a0 w0 (stands8_tR a b m ga gb xn n dd e) (fun _ _ _ _ => True) 30 := by
    refine Reg.op_ok2 (fun af => { dst := some 97, op := Op.load 24 (Operand.tmp 4), type := 24, pos := "outright.go:120", after := af, guard := some (22, true) }) #[{ on := 22, ground := Ground.guard }] (by kernel_rfl) [22] (by kernel_rfl) fun af v W hb hd => ?_
    have d22 : v 22 = (Value.bool true) := hd 22 (by decide)
    have e4 := (Reg.gfr_eval0 (ops := (Reg.opsOf Try.f4 8)) (a0 := a0) (v := v) (L := [22]) 4 (by kernel_rfl)).trans i4
    have e89 := (Reg.gfr_eval (ops := (Reg.opsOf Try.f4 8)) (a0 := a0) (v := v) (L := [22]) 89 22 (by kernel_rfl) (by rw [hsz]; omega)).trans d22
    refine ⟨Reg.wanted_of rfl (by kernel_rfl) e89, ?_⟩
    generalize Reg.gfr (Reg.opsOf Try.f4 8) a0 v [22] = G at e4 ⊢
    generalize hρ : G.eval = ρ at e4
    have hρ' : G.eval = ρ := hρ
    exact fun K hK => wp_load_row 24 (.tmp 4) rfl gb (by rw [hρ']; exact e4) 24 (vC b) (0, 0) _ (M_gb W hb) Try.underlying24 rfl (vec_size hb') (hK _ _ ⟨Below.refl _ _, rfl⟩)
  have h31 : Reg.OpOK Try.prog (Reg.opsOf Try.f4 8) a0 w0 (stands8_tR a b m ga gb xn n dd e) (fun _ _ _ _ => True) 31 := by
    refine Reg.op_ok2 (fun af => { dst := some 98, op := Op.call { callee := Callee.value (Operand.func 15), args := #[Operand.tmp 96, Operand.tmp 97], argTypes := #[24, 24] }, type := 31, pos := "outright.go:120", after := af, guard := some (22, true) }) #[{ on := 29, ground := Ground.data }, { on := 30, ground := Ground.data }, { on := 28, ground := Ground.chain }, { on := 22, ground := Ground.guard }] (by kernel_rfl) [29, 30, 28, 22] (by kernel_rfl) fun af v W hb hd => ?_
    have d22 : v 22 = (Value.bool true) := hd 22 (by decide)
    have d29 : v 29 = (Value.agg (vC a)) := hd 29 (by decide)
    have d30 : v 30 = (Value.agg (vC b)) := hd 30 (by decide)
    have e96 := (Reg.gfr_eval (ops := (Reg.opsOf Try.f4 8)) (a0 := a0) (v := v) (L := [29, 30, 28, 22]) 96 29 (by kernel_rfl) (by rw [hsz]; omega)).trans d29
    have e97 := (Reg.gfr_eval (ops := (Reg.opsOf Try.f4 8)) (a0 := a0) (v := v) (L := [29, 30, 28, 22]) 97 30 (by kernel_rfl) (by rw [hsz]; omega)).trans d30
    have e89 := (Reg.gfr_eval (ops := (Reg.opsOf Try.f4 8)) (a0 := a0) (v := v) (L := [29, 30, 28, 22]) 89 22 (by kernel_rfl) (by rw [hsz]; omega)).trans d22
    refine ⟨Reg.wanted_of rfl (by kernel_rfl) e89, ?_⟩
    have eF : ∀ f, (Reg.gfr (Reg.opsOf Try.f4 8) a0 v [29, 30, 28, 22]).eval (.func f) = .func (.func f) #[] #[] := fun _ => rfl
    generalize Reg.gfr (Reg.opsOf Try.f4 8) a0 v [29, 30, 28, 22] = G at e96 e97 eF ⊢
    generalize hρ : G.eval = ρ at e96 e97 eF
    have hρ' : G.eval = ρ := hρ
    refine Reg.go_call 15 #[(Value.agg (vC a)), (Value.agg (vC b))] (by rw [hρ']; simp [execOp, go_sem, e96, e97, eF]) ((lacks_any a b ha hb' sa sb W).mono fun e w' he => ?_)
    obtain ⟨rfl, hbb⟩ := he
    exact ⟨_, rfl, hbb, (show _ = _ from by rw [f4])⟩
  have h32 : Reg.OpOK Try.prog (Reg.opsOf Try.f4 8) a0 w0 (stands8_tR a b m ga gb xn n dd e) (fun _ _ _ _ => True) 32 := by
    refine Reg.op_ok2 (fun af => { dst := some 99, op := Op.binOp BinOp.eql 31 (Operand.tmp 95) (Operand.tmp 98) 31, type := 4, pos := "outright.go:120", after := af, guard := some (22, true) }) #[{ on := 28, ground := Ground.data }, { on := 31, ground := Ground.data }, { on := 22, ground := Ground.guard }] (by kernel_rfl) [28, 31, 22] (by kernel_rfl) fun af v W hb hd => ?_
    have d22 : v 22 = (Value.bool true) := hd 22 (by decide)
    have d28 : v 28 = (Value.int IntKind.u64 (n : Int)) := hd 28 (by decide)
    have d31 : v 31 = (Value.int IntKind.u64 (n : Int)) := hd 31 (by decide)
    have e95 := (Reg.gfr_eval (ops := (Reg.opsOf Try.f4 8)) (a0 := a0) (v := v) (L := [28, 31, 22]) 95 28 (by kernel_rfl) (by rw [hsz]; omega)).trans d28
    have e98 := (Reg.gfr_eval (ops := (Reg.opsOf Try.f4 8)) (a0 := a0) (v := v) (L := [28, 31, 22]) 98 31 (by kernel_rfl) (by rw [hsz]; omega)).trans d31
    have e89 := (Reg.gfr_eval (ops := (Reg.opsOf Try.f4 8)) (a0 := a0) (v := v) (L := [28, 31, 22]) 89 22 (by kernel_rfl) (by rw [hsz]; omega)).trans d22
    refine ⟨Reg.wanted_of rfl (by kernel_rfl) e89, ?_⟩
    generalize Reg.gfr (Reg.opsOf Try.f4 8) a0 v [28, 31, 22] = G at e95 e98 ⊢
    generalize hρ : G.eval = ρ at e95 e98
    have hρ' : G.eval = ρ := hρ
    refine Reg.go_run (Value.bool true) W ?_ ?_
    · rw [hρ']; simp [execOp, go_sem, e95, e98]
    · exact ⟨Below.refl _ _, rfl⟩
  have h33 : Reg.OpOK Try.prog (Reg.opsOf Try.f4 8) a0 w0 (stands8_tR a b m ga gb xn n dd e) (fun _ _ _ _ => True) 33 := by
    refine Reg.op_ok2 (fun af => { dst := some 100, op := Op.pick (Operand.tmp 89) (Operand.tmp 99) (Operand.const (Value.bool false)), type := 4, pos := "outright.go:120", after := af, guard := none }) #[{ on := 22, ground := Ground.data }, { on := 32, ground := Ground.data }] (by kernel_rfl) [22, 32] (by kernel_rfl) fun af v W hb hd => ?_
    have d22 : v 22 = (Value.bool true) := hd 22 (by decide)
    have d32 : v 32 = (Value.bool true) := hd 32 (by decide)
    have e89 := (Reg.gfr_eval (ops := (Reg.opsOf Try.f4 8)) (a0 := a0) (v := v) (L := [22, 32]) 89 22 (by kernel_rfl) (by rw [hsz]; omega)).trans d22
    have e99 := (Reg.gfr_eval (ops := (Reg.opsOf Try.f4 8)) (a0 := a0) (v := v) (L := [22, 32]) 99 32 (by kernel_rfl) (by rw [hsz]; omega)).trans d32
    refine ⟨Reg.wanted_none rfl, ?_⟩
    have eC : ∀ x, (Reg.gfr (Reg.opsOf Try.f4 8) a0 v [22, 32]).eval (.const x) = x := fun _ => rfl
    generalize Reg.gfr (Reg.opsOf Try.f4 8) a0 v [22, 32] = G at e89 e99 eC ⊢
    generalize hρ : G.eval = ρ at e89 e99 eC
    have hρ' : G.eval = ρ := hρ
    refine Reg.go_run (Value.bool true) W ?_ ?_
    · rw [hρ']; simp [execOp, go_sem, e89, e99, eC]
    · exact ⟨Below.refl _ _, rfl⟩
  have h34 : Reg.OpOK Try.prog (Reg.opsOf Try.f4 8) a0 w0 (stands8_tR a b m ga gb xn n dd e) (fun _ _ _ _ => True) 34 := by
    refine Reg.op_ok2 (fun af => { dst := some 6, op := Op.assign (Operand.tmp 100), type := 4, pos := "outright.go:120", after := af, guard := none }) #[{ on := 33, ground := Ground.data }, { on := 31, ground := Ground.chain }, { on := 0, ground := Ground.phase }, { on := 1, ground := Ground.phase }, { on := 2, ground := Ground.phase }, { on := 3, ground := Ground.phase }, { on := 4, ground := Ground.phase }, { on := 5, ground := Ground.phase }, { on := 6, ground := Ground.phase }, { on := 7, ground := Ground.phase }, { on := 8, ground := Ground.phase }, { on := 9, ground := Ground.phase }, { on := 10, ground := Ground.phase }, { on := 11, ground := Ground.phase }, { on := 12, ground := Ground.phase }, { on := 13, ground := Ground.phase }, { on := 14, ground := Ground.phase }, { on := 15, ground := Ground.phase }, { on := 16, ground := Ground.phase }, { on := 17, ground := Ground.phase }, { on := 18, ground := Ground.phase }, { on := 19, ground := Ground.phase }, { on := 20, ground := Ground.phase }, { on := 21, ground := Ground.phase }, { on := 22, ground := Ground.phase }, { on := 23, ground := Ground.phase }, { on := 24, ground := Ground.phase }, { on := 25, ground := Ground.phase }, { on := 26, ground := Ground.phase }, { on := 27, ground := Ground.phase }, { on := 28, ground := Ground.phase }, { on := 29, ground := Ground.phase }, { on := 30, ground := Ground.phase }, { on := 31, ground := Ground.phase }, { on := 32, ground := Ground.phase }, { on := 33, ground := Ground.phase }] (by kernel_rfl) [33, 31, 0, 1, 2, 3, 4, 5, 6, 7, 8, 9, 10, 11, 12, 13, 14, 15, 16, 17, 18, 19, 20, 21, 22, 23, 24, 25, 26, 27, 28, 29, 30, 31, 32, 33] (by kernel_rfl) fun af v W hb hd => ?_
    have d33 : v 33 = (Value.bool true) := hd 33 (by decide)
    have e100 := (Reg.gfr_eval (ops := (Reg.opsOf Try.f4 8)) (a0 := a0) (v := v) (L := [33, 31, 0, 1, 2, 3, 4, 5, 6, 7, 8, 9, 10, 11, 12, 13, 14, 15, 16, 17, 18, 19, 20, 21, 22, 23, 24, 25, 26, 27, 28, 29, 30, 31, 32, 33]) 100 33 (by kernel_rfl) (by rw [hsz]; omega)).trans d33
    refine ⟨Reg.wanted_none rfl, ?_⟩
    generalize Reg.gfr (Reg.opsOf Try.f4 8) a0 v [33, 31, 0, 1, 2, 3, 4, 5, 6, 7, 8, 9, 10, 11, 12, 13, 14, 15, 16, 17, 18, 19, 20, 21, 22, 23, 24, 25, 26, 27, 28, 29, 30, 31, 32, 33] = G at e100 ⊢
    generalize hρ : G.eval = ρ at e100
    have hρ' : G.eval = ρ := hρ
    refine Reg.go_run (Value.bool true) W ?_ ?_
    · rw [hρ']; simp [execOp, go_sem, e100]
    · exact ⟨Below.refl _ _, rfl⟩
  refine Reg.region_all (by kernel_rfl) (stands8_tR a b m ga gb xn n dd e) (by rw [hn, hsz]; kernel_rfl) (stands8_t_stable a b m ga gb xn n dd e) (fun i hi => ?_) (fun v w hb hR => ?_)
  · rw [hn] at hi
    match i, List.mem_range.1 hi with
    | 0, _ => exact h0
    | 1, _ => exact h1
    | 2, _ => exact h2
    | 3, _ => exact h3
    | 4, _ => exact h4
    | 5, _ => exact h5
    | 6, _ => exact h6
    | 7, _ => exact h7
    | 8, _ => exact h8
    | 9, _ => exact h9
    | 10, _ => exact h10
    | 11, _ => exact h11
    | 12, _ => exact h12
    | 13, _ => exact h13
    | 14, _ => exact h14
    | 15, _ => exact h15
    | 16, _ => exact h16
    | 17, _ => exact h17
    | 18, _ => exact h18
    | 19, _ => exact h19
    | 20, _ => exact h20
    | 21, _ => exact h21
    | 22, _ => exact h22
    | 23, _ => exact h23
    | 24, _ => exact h24
    | 25, _ => exact h25
    | 26, _ => exact h26
    | 27, _ => exact h27
    | 28, _ => exact h28
    | 29, _ => exact h29
    | 30, _ => exact h30
    | 31, _ => exact h31
    | 32, _ => exact h32
    | 33, _ => exact h33
    | 34, _ => exact h34
    | (_ + 35), h => omega
  · rw [hn] at hR ⊢
    have v0 : v 0 = (Value.bool true) := hR 0 (by decide)
    have v1 : v 1 = (Value.bool true) := hR 1 (by decide)
    have v2 : v 2 = (Value.agg (vC a)) := hR 2 (by decide)
    have v3 : v 3 = (Value.agg (vC b)) := hR 3 (by decide)
    have v4 : v 4 = (Value.bool true) := hR 4 (by decide)
    have v5 : v 5 = (Value.int IntKind.i64 (xn : Int)) := hR 5 (by decide)
    have v6 : v 6 = (Value.bool true) := hR 6 (by decide)
    have v7 : v 7 = (Value.bool true) := hR 7 (by decide)
    have v8 : v 8 = undef := hR 8 (by decide)
    have v9 : v 9 = undef := hR 9 (by decide)
    have v10 : v 10 = (Value.bool true) := hR 10 (by decide)
    have v11 : v 11 = (Value.bool true) := hR 11 (by decide)
    have v12 : v 12 = (Value.bool true) := hR 12 (by decide)
    have v13 : v 13 = (Value.bool true) := hR 13 (by decide)
    have v14 : v 14 = (Value.agg (vC a)) := hR 14 (by decide)
    have v15 : v 15 = (Value.agg (vC b)) := hR 15 (by decide)
    have v16 : v 16 = (Value.bool true) := hR 16 (by decide)
    have v17 : v 17 = (Value.agg (vC a)) := hR 17 (by decide)
    have v18 : v 18 = (Value.agg (vC b)) := hR 18 (by decide)
    have v19 : v 19 = (Value.bool true) := hR 19 (by decide)
    have v20 : v 20 = (Value.bool true) := hR 20 (by decide)
    have v21 : v 21 = (Value.bool true) := hR 21 (by decide)
    have v22 : v 22 = (Value.bool true) := hR 22 (by decide)
    have v23 : v 23 = (Value.agg (vC a)) := hR 23 (by decide)
    have v24 : v 24 = (Value.agg (vC a)) := hR 24 (by decide)
    have v25 : v 25 = (Value.agg (vC b)) := hR 25 (by decide)
    have v27 : v 27 = (Value.agg (vC m)) := hR 27 (by decide)
    have v28 : v 28 = (Value.int IntKind.u64 (n : Int)) := hR 28 (by decide)
    have v29 : v 29 = (Value.agg (vC a)) := hR 29 (by decide)
    have v30 : v 30 = (Value.agg (vC b)) := hR 30 (by decide)
    have v31 : v 31 = (Value.int IntKind.u64 (n : Int)) := hR 31 (by decide)
    have v32 : v 32 = (Value.bool true) := hR 32 (by decide)
    have v33 : v 33 = (Value.bool true) := hR 33 (by decide)
    have v34 : v 34 = (Value.bool true) := hR 34 (by decide)
    rw [hfin v, v0, v1, v2, v3, v4, v5, v6, v7, v8, v9, v10, v11, v12, v13, v14, v15, v16, v17, v18, v19, v20, v21, v22, v23, v24, v25, v27, v28, v29, v30, v31, v32, v33, v34]
    exact hend w (v 26) hb 
def stands8_fR (a b m : List Nat) (ga gb : Nat) (xn n : Nat) (dd e : Bool) : Nat → Value → World → Prop
  | 0 => fun x_ _ => x_ = (Value.bool true)
  | 1 => fun x_ _ => x_ = (Value.bool true)
  | 2 => fun x_ _ => x_ = (Value.agg (vC a))
  | 3 => fun x_ _ => x_ = (Value.agg (vC b))
  | 4 => fun x_ _ => x_ = (Value.bool dd)
  | 5 => fun x_ _ => x_ = (Value.int IntKind.i64 (xn : Int))
  | 6 => fun x_ _ => x_ = (Value.bool false)
  | 7 => fun x_ _ => x_ = (Value.bool false)
  | 8 => fun x_ _ => x_ = (Value.int IntKind.i64 (xn : Int))
  | 9 => fun x_ _ => x_ = (Value.bool dd)
  | 10 => fun x_ _ => x_ = (Value.bool dd)
  | 11 => fun x_ _ => x_ = (Value.bool true)
  | 12 => fun x_ _ => x_ = (Value.bool true)
  | 13 => fun x_ _ => x_ = (Value.bool true)
  | 14 => fun x_ _ => x_ = (Value.agg (vC a))
  | 15 => fun x_ _ => x_ = (Value.agg (vC b))
  | 16 => fun x_ _ => x_ = (Value.bool dd)
  | 17 => fun x_ _ => x_ = (Value.agg (vC a))
  | 18 => fun x_ _ => x_ = (Value.agg (vC b))
  | 19 => fun x_ _ => x_ = (Value.bool dd)
  | 20 => fun x_ _ => x_ = (Value.bool true)
  | 21 => fun x_ _ => x_ = (Value.bool true)
  | 22 => fun x_ _ => x_ = (Value.bool true)
  | 23 => fun x_ _ => x_ = (Value.agg (vC a))
  | 24 => fun x_ _ => x_ = (Value.agg (vC a))
  | 25 => fun x_ _ => x_ = (Value.agg (vC b))
  | 26 => Reg.IsRow 24 (vecs [a, b]).toArray 2
  | 27 => fun x_ _ => x_ = (Value.agg (vC m))
  | 28 => fun x_ _ => x_ = (Value.int IntKind.u64 (n : Int))
  | 29 => fun x_ _ => x_ = (Value.agg (vC a))
  | 30 => fun x_ _ => x_ = (Value.agg (vC b))
  | 31 => fun x_ _ => x_ = (Value.int IntKind.u64 (n : Int))
  | 32 => fun x_ _ => x_ = (Value.bool true)
  | 33 => fun x_ _ => x_ = (Value.bool true)
  | 34 => fun x_ _ => x_ = (Value.bool true)
  | _ => fun _ _ => True
theorem stands8_f_stable (a b m : List Nat) (ga gb : Nat) (xn n : Nat) (dd e : Bool) : ∀ i_ u_ w_ w_', (stands8_fR a b m ga gb xn n dd e) i_ u_ w_ → Below w_.heap.size w_ w_' → (stands8_fR a b m ga gb xn n dd e) i_ u_ w_' := fun i_ u_ w_ w_' h_ hb_ => by
  match i_, h_ with
  | 0, h_ => exact h_
  | 1, h_ => exact h_
  | 2, h_ => exact h_
  | 3, h_ => exact h_
  | 4, h_ => exact h_
  | 5, h_ => exact h_
  | 6, h_ => exact h_
  | 7, h_ => exact h_
  | 8, h_ => exact h_
  | 9, h_ => exact h_
  | 10, h_ => exact h_
  | 11, h_ => exact h_
  | 12, h_ => exact h_
  | 13, h_ => exact h_
  | 14, h_ => exact h_
  | 15, h_ => exact h_
  | 16, h_ => exact h_
  | 17, h_ => exact h_
  | 18, h_ => exact h_
  | 19, h_ => exact h_
  | 20, h_ => exact h_
  | 21, h_ => exact h_
  | 22, h_ => exact h_
  | 23, h_ => exact h_
  | 24, h_ => exact h_
  | 25, h_ => exact h_
  | 26, h_ => exact (Reg.IsRow.below h_ hb_)
  | 27, h_ => exact h_
  | 28, h_ => exact h_
  | 29, h_ => exact h_
  | 30, h_ => exact h_
  | 31, h_ => exact h_
  | 32, h_ => exact h_
  | 33, h_ => exact h_
  | 34, h_ => exact h_
  | (_ + 35), _ => trivial
set_option maxHeartbeats 4000000 in
set_option maxRecDepth 20000 in
theorem stands8_f (a b m : List Nat) (ga gb : Nat) (xn n : Nat) (dd e : Bool) (w0 : World) {s0 s1 s2 s5 s9 s10 s11 s12 s13 s14 s15 s16 s17 s18 s19 s20 s21 s22 s23 s24 s25 s26 s27 s28 s29 s30 s31 s32 s33 s34 s35 s36 s37 s38 s39 s40 s41 s42 s43 s44 s45 s46 s47 s48 s49 s50 s51 s52 s53 s54 s55 s56 s57 s58 s59 s60 s61 s62 s63 s64 s65 s66 s67 s68 s69 s70 s71 s72 s73 s74 s75 s76 s77 s78 s79 s80 s81 s82 s83 s84 s85 s86 s87 s88 s89 s90 s91 s92 s93 s94 s95 s96 s97 s98 s99 s100 : Value}
    (ha : a.length = 16) (hb' : b.length = 16) (hm : m.length = 16) (sa : small a) (sb : small b) (sm : small m) (f0 : ((xn : Int) == 0) = false) (f1 : ((xn : Int) == 1) = dd) (f2 : decide (maxV a b = b) = dd) (f3 : lackV a m = n) (f4 : lackV a b = n) (m1 : maxV a b = m)
    (M_ga : ∀ W, Below w0.heap.size w0 W → W.heap[ga]? = some (.cells (vC a) 24 (0, 0)))
    (M_gb : ∀ W, Below w0.heap.size w0 W → W.heap[gb]? = some (.cells (vC b) 24 (0, 0)))
    {Q : Exit → Act → World → Prop}
    (hend : ∀ (w : World) (r93 : Value), Below w0.heap.size w0 w → Q .normal { tmps := #[s0, s1, s2, (Value.pointer (some ⟨ga, 0, none⟩)), (Value.pointer (some ⟨gb, 0, none⟩)), s5, (Value.bool true), (Value.bool true), (Value.int IntKind.i64 (xn : Int)), s9, s10, s11, s12, s13, s14, s15, s16, s17, s18, s19, s20, s21, s22, s23, s24, s25, s26, s27, s28, s29, s30, s31, s32, s33, s34, s35, s36, s37, s38, s39, s40, s41, s42, s43, s44, s45, s46, s47, s48, s49, s50, s51, s52, s53, s54, s55, s56, s57, s58, s59, s60, s61, s62, s63, s64, s65, s66, (Value.bool true), (Value.bool true), (Value.agg (vC a)), (Value.agg (vC b)), (Value.bool dd), (Value.int IntKind.i64 (xn : Int)), (Value.bool false), (Value.bool false), (Value.int IntKind.i64 (xn : Int)), (Value.bool dd), (Value.bool dd), (Value.bool true), (Value.bool true), (Value.bool true), (Value.agg (vC a)), (Value.agg (vC b)), (Value.bool dd), (Value.agg (vC a)), (Value.agg (vC b)), (Value.bool dd), (Value.bool true), (Value.bool true), (Value.bool true), (Value.agg (vC a)), (Value.agg (vC a)), (Value.agg (vC b)), r93, (Value.agg (vC m)), (Value.int IntKind.u64 (n : Int)), (Value.agg (vC a)), (Value.agg (vC b)), (Value.int IntKind.u64 (n : Int)), (Value.bool true), (Value.bool true)], defers := [] } w) :
    (Code.region 8 (Reg.opsOf Try.f4 8) true).wp Try.prog Q { tmps := #[s0, s1, s2, (Value.pointer (some ⟨ga, 0, none⟩)), (Value.pointer (some ⟨gb, 0, none⟩)), s5, (Value.bool false), (Value.bool true), (Value.int IntKind.i64 (xn : Int)), s9, s10, s11, s12, s13, s14, s15, s16, s17, s18, s19, s20, s21, s22, s23, s24, s25, s26, s27, s28, s29, s30, s31, s32, s33, s34, s35, s36, s37, s38, s39, s40, s41, s42, s43, s44, s45, s46, s47, s48, s49, s50, s51, s52, s53, s54, s55, s56, s57, s58, s59, s60, s61, s62, s63, s64, s65, s66, s67, s68, s69, s70, s71, s72, s73, s74, s75, s76, s77, s78, s79, s80, s81, s82, s83, s84, s85, s86, s87, s88, s89, s90, s91, s92, s93, s94, s95, s96, s97, s98, s99, s100], defers := [] } w0 := by
  obtain ⟨a0, ha0⟩ : ∃ a0 : Act, a0 = { tmps := #[s0, s1, s2, (Value.pointer (some ⟨ga, 0, none⟩)), (Value.pointer (some ⟨gb, 0, none⟩)), s5, (Value.bool false), (Value.bool true), (Value.int IntKind.i64 (xn : Int)), s9, s10, s11, s12, s13, s14, s15, s16, s17, s18, s19, s20, s21, s22, s23, s24, s25, s26, s27, s28, s29, s30, s31, s32, s33, s34, s35, s36, s37, s38, s39, s40, s41, s42, s43, s44, s45, s46, s47, s48, s49, s50, s51, s52, s53, s54, s55, s56, s57, s58, s59, s60, s61, s62, s63, s64, s65, s66, s67, s68, s69, s70, s71, s72, s73, s74, s75, s76, s77, s78, s79, s80, s81, s82, s83, s84, s85, s86, s87, s88, s89, s90, s91, s92, s93, s94, s95, s96, s97, s98, s99, s100], defers := [] } := ⟨_, rfl⟩
  have hfin : ∀ v : Nat → Value, Reg.gfr (Reg.opsOf Try.f4 8) a0 v (List.range 35) = { tmps := #[s0, s1, s2, (Value.pointer (some ⟨ga, 0, none⟩)), (Value.pointer (some ⟨gb, 0, none⟩)), s5, v 34, (Value.bool true), (Value.int IntKind.i64 (xn : Int)), s9, s10, s11, s12, s13, s14, s15, s16, s17, s18, s19, s20, s21, s22, s23, s24, s25, s26, s27, s28, s29, s30, s31, s32, s33, s34, s35, s36, s37, s38, s39, s40, s41, s42, s43, s44, s45, s46, s47, s48, s49, s50, s51, s52, s53, s54, s55, s56, s57, s58, s59, s60, s61, s62, s63, s64, s65, s66, v 0, v 1, v 2, v 3, v 4, v 5, v 6, v 7, v 8, v 9, v 10, v 11, v 12, v 13, v 14, v 15, v 16, v 17, v 18, v 19, v 20, v 21, v 22, v 23, v 24, v 25, v 26, v 27, v 28, v 29, v 30, v 31, v 32, v 33], defers := [] } := fun v => by rw [ha0]; kernel_rfl
  rw [← ha0]
  have i3 : a0.eval (.tmp 3) = (Value.pointer (some ⟨ga, 0, none⟩)) := by rw [ha0]; rfl
  have i4 : a0.eval (.tmp 4) = (Value.pointer (some ⟨gb, 0, none⟩)) := by rw [ha0]; rfl
  have i6 : a0.eval (.tmp 6) = (Value.bool false) := by rw [ha0]; rfl
  have i7 : a0.eval (.tmp 7) = (Value.bool true) := by rw [ha0]; rfl
  have i8 : a0.eval (.tmp 8) = (Value.int IntKind.i64 (xn : Int)) := by rw [ha0]; rfl
  have hsz : a0.tmps.size = 101 := by rw [ha0]; rfl
  clear ha0
  have hn : (Reg.opsOf Try.f4 8).size = 35 := by kernel_rfl
  have h0 : Reg.OpOK Try.prog (Reg.opsOf Try.f4 8) a0 w0 (stands8_fR a b m ga gb xn n dd e) (fun _ _ _ _ => True) 0 := by
    refine Reg.op_ok2 (fun af => { dst := some 67, op := Op.move (Operand.tmp 7), type := 4, pos := "outright.go:120", after := af, guard := none }) #[] (by kernel_rfl) [] (by kernel_rfl) fun af v W hb hd => ?_
    have e7 := (Reg.gfr_eval0 (ops := (Reg.opsOf Try.f4 8)) (a0 := a0) (v := v) (L := []) 7 (by kernel_rfl)).trans i7
    refine ⟨Reg.wanted_none rfl, ?_⟩
    generalize Reg.gfr (Reg.opsOf Try.f4 8) a0 v [] = G at e7 ⊢
    generalize hρ : G.eval = ρ at e7
    have hρ' : G.eval = ρ := hρ
    refine Reg.go_run (Value.bool true) W ?_ ?_
    · rw [hρ']; simp [execOp, go_sem, e7]
    · exact ⟨Below.refl _ _, rfl⟩
  have h1 : Reg.OpOK Try.prog (Reg.opsOf Try.f4 8) a0 w0 (stands8_fR a b m ga gb xn n dd e) (fun _ _ _ _ => True) 1 := by
    refine Reg.op_ok2 (fun af => { dst := some 68, op := Op.move (Operand.tmp 67), type := 4, pos := "outright.go:120", after := af, guard := none }) #[{ on := 0, ground := Ground.data }] (by kernel_rfl) [0] (by kernel_rfl) fun af v W hb hd => ?_
    have d0 : v 0 = (Value.bool true) := hd 0 (by decide)
    have e67 := (Reg.gfr_eval (ops := (Reg.opsOf Try.f4 8)) (a0 := a0) (v := v) (L := [0]) 67 0 (by kernel_rfl) (by rw [hsz]; omega)).trans d0
    refine ⟨Reg.wanted_none rfl, ?_⟩
    generalize Reg.gfr (Reg.opsOf Try.f4 8) a0 v [0] = G at e67 ⊢
    generalize hρ : G.eval = ρ at e67
    have hρ' : G.eval = ρ := hρ
    refine Reg.go_run (Value.bool true) W ?_ ?_
    · rw [hρ']; simp [execOp, go_sem, e67]
    · exact ⟨Below.refl _ _, rfl⟩
  have h2 : Reg.OpOK Try.prog (Reg.opsOf Try.f4 8) a0 w0 (stands8_fR a b m ga gb xn n dd e) (fun _ _ _ _ => True) 2 := by
    refine Reg.op_ok2 (fun af => { dst := some 69, op := Op.load 24 (Operand.tmp 3), type := 24, pos := "outright.go:120", after := af, guard := some (1, true) }) #[{ on := 1, ground := Ground.guard }] (by kernel_rfl) [1] (by kernel_rfl) fun af v W hb hd => ?_
    have d1 : v 1 = (Value.bool true) := hd 1 (by decide)
    have e3 := (Reg.gfr_eval0 (ops := (Reg.opsOf Try.f4 8)) (a0 := a0) (v := v) (L := [1]) 3 (by kernel_rfl)).trans i3
    have e68 := (Reg.gfr_eval (ops := (Reg.opsOf Try.f4 8)) (a0 := a0) (v := v) (L := [1]) 68 1 (by kernel_rfl) (by rw [hsz]; omega)).trans d1
    refine ⟨Reg.wanted_of rfl (by kernel_rfl) e68, ?_⟩
    generalize Reg.gfr (Reg.opsOf Try.f4 8) a0 v [1] = G at e3 ⊢
    generalize hρ : G.eval = ρ at e3
    have hρ' : G.eval = ρ := hρ
    exact fun K hK => wp_load_row 24 (.tmp 3) rfl ga (by rw [hρ']; exact e3) 24 (vC a) (0, 0) _ (M_ga W hb) Try.underlying24 rfl (vec_size ha) (hK _ _ ⟨Below.refl _ _, rfl⟩)
  have h3 : Reg.OpOK Try.prog (Reg.opsOf Try.f4 8) a0 w0 (stands8_fR a b m ga gb xn n dd e) (fun _ _ _ _ => True) 3 := by
    refine Reg.op_ok2 (fun af => { dst := some 70, op := Op.load 24 (Operand.tmp 4), type := 24, pos := "outright.go:120", after := af, guard := some (1, true) }) #[{ on := 1, ground := Ground.guard }] (by kernel_rfl) [1] (by kernel_rfl) fun af v W hb hd => ?_
    have d1 : v 1 = (Value.bool true) := hd 1 (by decide)
    have e4 := (Reg.gfr_eval0 (ops := (Reg.opsOf Try.f4 8)) (a0 := a0) (v := v) (L := [1]) 4 (by kernel_rfl)).trans i4
    have e68 := (Reg.gfr_eval (ops := (Reg.opsOf Try.f4 8)) (a0 := a0) (v := v) (L := [1]) 68 1 (by kernel_rfl) (by rw [hsz]; omega)).trans d1
    refine ⟨Reg.wanted_of rfl (by kernel_rfl) e68, ?_⟩
    generalize Reg.gfr (Reg.opsOf Try.f4 8) a0 v [1] = G at e4 ⊢
    generalize hρ : G.eval = ρ at e4
    have hρ' : G.eval = ρ := hρ
    exact fun K hK => wp_load_row 24 (.tmp 4) rfl gb (by rw [hρ']; exact e4) 24 (vC b) (0, 0) _ (M_gb W hb) Try.underlying24 rfl (vec_size hb') (hK _ _ ⟨Below.refl _ _, rfl⟩)
  have h4 : Reg.OpOK Try.prog (Reg.opsOf Try.f4 8) a0 w0 (stands8_fR a b m ga gb xn n dd e) (fun _ _ _ _ => True) 4 := by
    refine Reg.op_ok2 (fun af => { dst := some 71, op := Op.call { callee := Callee.value (Operand.func 13), args := #[Operand.tmp 69, Operand.tmp 70], argTypes := #[24, 24] }, type := 4, pos := "outright.go:120", after := af, guard := some (1, true) }) #[{ on := 2, ground := Ground.data }, { on := 3, ground := Ground.data }, { on := 1, ground := Ground.chain }, { on := 1, ground := Ground.guard }] (by kernel_rfl) [2, 3, 1, 1] (by kernel_rfl) fun af v W hb hd => ?_
    have d1 : v 1 = (Value.bool true) := hd 1 (by decide)
    have d2 : v 2 = (Value.agg (vC a)) := hd 2 (by decide)
    have d3 : v 3 = (Value.agg (vC b)) := hd 3 (by decide)
    have e69 := (Reg.gfr_eval (ops := (Reg.opsOf Try.f4 8)) (a0 := a0) (v := v) (L := [2, 3, 1, 1]) 69 2 (by kernel_rfl) (by rw [hsz]; omega)).trans d2
    have e70 := (Reg.gfr_eval (ops := (Reg.opsOf Try.f4 8)) (a0 := a0) (v := v) (L := [2, 3, 1, 1]) 70 3 (by kernel_rfl) (by rw [hsz]; omega)).trans d3
    have e68 := (Reg.gfr_eval (ops := (Reg.opsOf Try.f4 8)) (a0 := a0) (v := v) (L := [2, 3, 1, 1]) 68 1 (by kernel_rfl) (by rw [hsz]; omega)).trans d1
    refine ⟨Reg.wanted_of rfl (by kernel_rfl) e68, ?_⟩
    have eF : ∀ f, (Reg.gfr (Reg.opsOf Try.f4 8) a0 v [2, 3, 1, 1]).eval (.func f) = .func (.func f) #[] #[] := fun _ => rfl
    generalize Reg.gfr (Reg.opsOf Try.f4 8) a0 v [2, 3, 1, 1] = G at e69 e70 eF ⊢
    generalize hρ : G.eval = ρ at e69 e70 eF
    have hρ' : G.eval = ρ := hρ
    refine Reg.go_call 13 #[(Value.agg (vC a)), (Value.agg (vC b))] (by rw [hρ']; simp [execOp, go_sem, e69, e70, eF]) ((atmost_any a b ha hb' W).mono fun e w' he => ?_)
    obtain ⟨rfl, hbb⟩ := he
    exact ⟨_, rfl, hbb, (show _ = _ from by rw [f2])⟩
  have h5 : Reg.OpOK Try.prog (Reg.opsOf Try.f4 8) a0 w0 (stands8_fR a b m ga gb xn n dd e) (fun _ _ _ _ => True) 5 := by
    refine Reg.op_ok2 (fun af => { dst := some 72, op := Op.move (Operand.tmp 8), type := 3, pos := "outright.go:120", after := af, guard := some (1, true) }) #[{ on := 1, ground := Ground.guard }] (by kernel_rfl) [1] (by kernel_rfl) fun af v W hb hd => ?_
    have d1 : v 1 = (Value.bool true) := hd 1 (by decide)
    have e8 := (Reg.gfr_eval0 (ops := (Reg.opsOf Try.f4 8)) (a0 := a0) (v := v) (L := [1]) 8 (by kernel_rfl)).trans i8
    have e68 := (Reg.gfr_eval (ops := (Reg.opsOf Try.f4 8)) (a0 := a0) (v := v) (L := [1]) 68 1 (by kernel_rfl) (by rw [hsz]; omega)).trans d1
    refine ⟨Reg.wanted_of rfl (by kernel_rfl) e68, ?_⟩
    generalize Reg.gfr (Reg.opsOf Try.f4 8) a0 v [1] = G at e8 ⊢
    generalize hρ : G.eval = ρ at e8
    have hρ' : G.eval = ρ := hρ
    refine Reg.go_run (Value.int IntKind.i64 (xn : Int)) W ?_ ?_
    · rw [hρ']; simp [execOp, go_sem, e8]
    · exact ⟨Below.refl _ _, rfl⟩
  have h6 : Reg.OpOK Try.prog (Reg.opsOf Try.f4 8) a0 w0 (stands8_fR a b m ga gb xn n dd e) (fun _ _ _ _ => True) 6 := by
    refine Reg.op_ok2 (fun af => { dst := some 73, op := Op.binOp BinOp.eql 3 (Operand.tmp 72) (Operand.const (Value.int IntKind.i64 0)) 3, type := 4, pos := "outright.go:120", after := af, guard := some (1, true) }) #[{ on := 5, ground := Ground.data }, { on := 1, ground := Ground.guard }] (by kernel_rfl) [5, 1] (by kernel_rfl) fun af v W hb hd => ?_
    have d1 : v 1 = (Value.bool true) := hd 1 (by decide)
    have d5 : v 5 = (Value.int IntKind.i64 (xn : Int)) := hd 5 (by decide)
    have e72 := (Reg.gfr_eval (ops := (Reg.opsOf Try.f4 8)) (a0 := a0) (v := v) (L := [5, 1]) 72 5 (by kernel_rfl) (by rw [hsz]; omega)).trans d5
    have e68 := (Reg.gfr_eval (ops := (Reg.opsOf Try.f4 8)) (a0 := a0) (v := v) (L := [5, 1]) 68 1 (by kernel_rfl) (by rw [hsz]; omega)).trans d1
    refine ⟨Reg.wanted_of rfl (by kernel_rfl) e68, ?_⟩
    have eC : ∀ x, (Reg.gfr (Reg.opsOf Try.f4 8) a0 v [5, 1]).eval (.const x) = x := fun _ => rfl
    generalize Reg.gfr (Reg.opsOf Try.f4 8) a0 v [5, 1] = G at e72 eC ⊢
    generalize hρ : G.eval = ρ at e72 eC
    have hρ' : G.eval = ρ := hρ
    refine Reg.go_run (Value.bool false) W ?_ ?_
    · rw [hρ']; simp [execOp, go_sem, e72, eC, f0]
    · exact ⟨Below.refl _ _, rfl⟩
  have h7 : Reg.OpOK Try.prog (Reg.opsOf Try.f4 8) a0 w0 (stands8_fR a b m ga gb xn n dd e) (fun _ _ _ _ => True) 7 := by
    refine Reg.op_ok2 (fun af => { dst := some 74, op := Op.move (Operand.tmp 73), type := 4, pos := "outright.go:120", after := af, guard := some (1, true) }) #[{ on := 6, ground := Ground.data }, { on := 4, ground := Ground.chain }, { on := 1, ground := Ground.guard }] (by kernel_rfl) [6, 4, 1] (by kernel_rfl) fun af v W hb hd => ?_
    have d1 : v 1 = (Value.bool true) := hd 1 (by decide)
    have d6 : v 6 = (Value.bool false) := hd 6 (by decide)
    have e73 := (Reg.gfr_eval (ops := (Reg.opsOf Try.f4 8)) (a0 := a0) (v := v) (L := [6, 4, 1]) 73 6 (by kernel_rfl) (by rw [hsz]; omega)).trans d6
    have e68 := (Reg.gfr_eval (ops := (Reg.opsOf Try.f4 8)) (a0 := a0) (v := v) (L := [6, 4, 1]) 68 1 (by kernel_rfl) (by rw [hsz]; omega)).trans d1
    refine ⟨Reg.wanted_of rfl (by kernel_rfl) e68, ?_⟩
    generalize Reg.gfr (Reg.opsOf Try.f4 8) a0 v [6, 4, 1] = G at e73 ⊢
    generalize hρ : G.eval = ρ at e73
    have hρ' : G.eval = ρ := hρ
    refine Reg.go_run (Value.bool false) W ?_ ?_
    · rw [hρ']; simp [execOp, go_sem, e73]
    · exact ⟨Below.refl _ _, rfl⟩
  have h8 : Reg.OpOK Try.prog (Reg.opsOf Try.f4 8) a0 w0 (stands8_fR a b m ga gb xn n dd e) (fun _ _ _ _ => True) 8 := by
    refine Reg.op_ok2 (fun af => { dst := some 75, op := Op.move (Operand.tmp 8), type := 3, pos := "outright.go:120", after := af, guard := some (7, false) }) #[{ on := 7, ground := Ground.guard }] (by kernel_rfl) [7] (by kernel_rfl) fun af v W hb hd => ?_
    have d7 : v 7 = (Value.bool false) := hd 7 (by decide)
    have e8 := (Reg.gfr_eval0 (ops := (Reg.opsOf Try.f4 8)) (a0 := a0) (v := v) (L := [7]) 8 (by kernel_rfl)).trans i8
    have e74 := (Reg.gfr_eval (ops := (Reg.opsOf Try.f4 8)) (a0 := a0) (v := v) (L := [7]) 74 7 (by kernel_rfl) (by rw [hsz]; omega)).trans d7
    refine ⟨Reg.wanted_of rfl (by kernel_rfl) e74, ?_⟩
    generalize Reg.gfr (Reg.opsOf Try.f4 8) a0 v [7] = G at e8 ⊢
    generalize hρ : G.eval = ρ at e8
    have hρ' : G.eval = ρ := hρ
    refine Reg.go_run (Value.int IntKind.i64 (xn : Int)) W ?_ ?_
    · rw [hρ']; simp [execOp, go_sem, e8]
    · exact ⟨Below.refl _ _, rfl⟩
  have h9 : Reg.OpOK Try.prog (Reg.opsOf Try.f4 8) a0 w0 (stands8_fR a b m ga gb xn n dd e) (fun _ _ _ _ => True) 9 := by
    refine Reg.op_ok2 (fun af => { dst := some 76, op := Op.binOp BinOp.eql 3 (Operand.tmp 75) (Operand.const (Value.int IntKind.i64 1)) 3, type := 4, pos := "outright.go:120", after := af, guard := some (7, false) }) #[{ on := 8, ground := Ground.data }, { on := 7, ground := Ground.guard }] (by kernel_rfl) [8, 7] (by kernel_rfl) fun af v W hb hd => ?_
    have d7 : v 7 = (Value.bool false) := hd 7 (by decide)
    have d8 : v 8 = (Value.int IntKind.i64 (xn : Int)) := hd 8 (by decide)
    have e75 := (Reg.gfr_eval (ops := (Reg.opsOf Try.f4 8)) (a0 := a0) (v := v) (L := [8, 7]) 75 8 (by kernel_rfl) (by rw [hsz]; omega)).trans d8
    have e74 := (Reg.gfr_eval (ops := (Reg.opsOf Try.f4 8)) (a0 := a0) (v := v) (L := [8, 7]) 74 7 (by kernel_rfl) (by rw [hsz]; omega)).trans d7
    refine ⟨Reg.wanted_of rfl (by kernel_rfl) e74, ?_⟩
    have eC : ∀ x, (Reg.gfr (Reg.opsOf Try.f4 8) a0 v [8, 7]).eval (.const x) = x := fun _ => rfl
    generalize Reg.gfr (Reg.opsOf Try.f4 8) a0 v [8, 7] = G at e75 eC ⊢
    generalize hρ : G.eval = ρ at e75 eC
    have hρ' : G.eval = ρ := hρ
    refine Reg.go_run (Value.bool dd) W ?_ ?_
    · rw [hρ']; simp [execOp, go_sem, e75, eC, f1]
    · exact ⟨Below.refl _ _, rfl⟩
  have h10 : Reg.OpOK Try.prog (Reg.opsOf Try.f4 8) a0 w0 (stands8_fR a b m ga gb xn n dd e) (fun _ _ _ _ => True) 10 := by
    refine Reg.op_ok2 (fun af => { dst := some 77, op := Op.pick (Operand.tmp 74) (Operand.const (Value.bool true)) (Operand.tmp 76), type := 4, pos := "outright.go:120", after := af, guard := some (1, true) }) #[{ on := 7, ground := Ground.data }, { on := 9, ground := Ground.data }, { on := 1, ground := Ground.guard }] (by kernel_rfl) [7, 9, 1] (by kernel_rfl) fun af v W hb hd => ?_
    have d1 : v 1 = (Value.bool true) := hd 1 (by decide)
    have d7 : v 7 = (Value.bool false) := hd 7 (by decide)
    have d9 : v 9 = (Value.bool dd) := hd 9 (by decide)
    have e74 := (Reg.gfr_eval (ops := (Reg.opsOf Try.f4 8)) (a0 := a0) (v := v) (L := [7, 9, 1]) 74 7 (by kernel_rfl) (by rw [hsz]; omega)).trans d7
    have e76 := (Reg.gfr_eval (ops := (Reg.opsOf Try.f4 8)) (a0 := a0) (v := v) (L := [7, 9, 1]) 76 9 (by kernel_rfl) (by rw [hsz]; omega)).trans d9
    have e68 := (Reg.gfr_eval (ops := (Reg.opsOf Try.f4 8)) (a0 := a0) (v := v) (L := [7, 9, 1]) 68 1 (by kernel_rfl) (by rw [hsz]; omega)).trans d1
    refine ⟨Reg.wanted_of rfl (by kernel_rfl) e68, ?_⟩
    have eC : ∀ x, (Reg.gfr (Reg.opsOf Try.f4 8) a0 v [7, 9, 1]).eval (.const x) = x := fun _ => rfl
    generalize Reg.gfr (Reg.opsOf Try.f4 8) a0 v [7, 9, 1] = G at e74 e76 eC ⊢
    generalize hρ : G.eval = ρ at e74 e76 eC
    have hρ' : G.eval = ρ := hρ
    refine Reg.go_run (Value.bool dd) W ?_ ?_
    · rw [hρ']; simp [execOp, go_sem, e74, e76, eC]
    · exact ⟨Below.refl _ _, rfl⟩
  have h11 : Reg.OpOK Try.prog (Reg.opsOf Try.f4 8) a0 w0 (stands8_fR a b m ga gb xn n dd e) (fun _ _ _ _ => True) 11 := by
    refine Reg.op_ok2 (fun af => { dst := some 78, op := Op.binOp BinOp.eql 4 (Operand.tmp 71) (Operand.tmp 77) 4, type := 4, pos := "outright.go:120", after := af, guard := some (1, true) }) #[{ on := 4, ground := Ground.data }, { on := 10, ground := Ground.data }, { on := 1, ground := Ground.guard }] (by kernel_rfl) [4, 10, 1] (by kernel_rfl) fun af v W hb hd => ?_
    have d1 : v 1 = (Value.bool true) := hd 1 (by decide)
    have d4 : v 4 = (Value.bool dd) := hd 4 (by decide)
    have d10 : v 10 = (Value.bool dd) := hd 10 (by decide)
    have e71 := (Reg.gfr_eval (ops := (Reg.opsOf Try.f4 8)) (a0 := a0) (v := v) (L := [4, 10, 1]) 71 4 (by kernel_rfl) (by rw [hsz]; omega)).trans d4
    have e77 := (Reg.gfr_eval (ops := (Reg.opsOf Try.f4 8)) (a0 := a0) (v := v) (L := [4, 10, 1]) 77 10 (by kernel_rfl) (by rw [hsz]; omega)).trans d10
    have e68 := (Reg.gfr_eval (ops := (Reg.opsOf Try.f4 8)) (a0 := a0) (v := v) (L := [4, 10, 1]) 68 1 (by kernel_rfl) (by rw [hsz]; omega)).trans d1
    refine ⟨Reg.wanted_of rfl (by kernel_rfl) e68, ?_⟩
    generalize Reg.gfr (Reg.opsOf Try.f4 8) a0 v [4, 10, 1] = G at e71 e77 ⊢
    generalize hρ : G.eval = ρ at e71 e77
    have hρ' : G.eval = ρ := hρ
    refine Reg.go_run (Value.bool true) W ?_ ?_
    · rw [hρ']; simp [execOp, go_sem, e71, e77]
    · exact ⟨Below.refl _ _, rfl⟩
  have h12 : Reg.OpOK Try.prog (Reg.opsOf Try.f4 8) a0 w0 (stands8_fR a b m ga gb xn n dd e) (fun _ _ _ _ => True) 12 := by
    refine Reg.op_ok2 (fun af => { dst := some 79, op := Op.pick (Operand.tmp 68) (Operand.tmp 78) (Operand.const (Value.bool false)), type := 4, pos := "outright.go:120", after := af, guard := none }) #[{ on := 1, ground := Ground.data }, { on := 11, ground := Ground.data }] (by kernel_rfl) [1, 11] (by kernel_rfl) fun af v W hb hd => ?_
    have d1 : v 1 = (Value.bool true) := hd 1 (by decide)
    have d11 : v 11 = (Value.bool true) := hd 11 (by decide)
    have e68 := (Reg.gfr_eval (ops := (Reg.opsOf Try.f4 8)) (a0 := a0) (v := v) (L := [1, 11]) 68 1 (by kernel_rfl) (by rw [hsz]; omega)).trans d1
    have e78 := (Reg.gfr_eval (ops := (Reg.opsOf Try.f4 8)) (a0 := a0) (v := v) (L := [1, 11]) 78 11 (by kernel_rfl) (by rw [hsz]; omega)).trans d11
    refine ⟨Reg.wanted_none rfl, ?_⟩
    have eC : ∀ x, (Reg.gfr (Reg.opsOf Try.f4 8) a0 v [1, 11]).eval (.const x) = x := fun _ => rfl
    generalize Reg.gfr (Reg.opsOf Try.f4 8) a0 v [1, 11] = G at e68 e78 eC ⊢
    generalize hρ : G.eval = ρ at e68 e78 eC
    have hρ' : G.eval = ρ := hρ
    refine Reg.go_run (Value.bool true) W ?_ ?_
    · rw [hρ']; simp [execOp, go_sem, e68, e78, eC]
    · exact ⟨Below.refl _ _, rfl⟩
  have h13 : Reg.OpOK Try.prog (Reg.opsOf Try.f4 8) a0 w0 (stands8_fR a b m ga gb xn n dd e) (fun _ _ _ _ => True) 13 := by
    refine Reg.op_ok2 (fun af => { dst := some 80, op := Op.move (Operand.tmp 79), type := 4, pos := "outright.go:120", after := af, guard := none }) #[{ on := 12, ground := Ground.data }, { on := 7, ground := Ground.chain }] (by kernel_rfl) [12, 7] (by kernel_rfl) fun af v W hb hd => ?_
    have d12 : v 12 = (Value.bool true) := hd 12 (by decide)
    have e79 := (Reg.gfr_eval (ops := (Reg.opsOf Try.f4 8)) (a0 := a0) (v := v) (L := [12, 7]) 79 12 (by kernel_rfl) (by rw [hsz]; omega)).trans d12
    refine ⟨Reg.wanted_none rfl, ?_⟩
    generalize Reg.gfr (Reg.opsOf Try.f4 8) a0 v [12, 7] = G at e79 ⊢
    generalize hρ : G.eval = ρ at e79
    have hρ' : G.eval = ρ := hρ
    refine Reg.go_run (Value.bool true) W ?_ ?_
    · rw [hρ']; simp [execOp, go_sem, e79]
    · exact ⟨Below.refl _ _, rfl⟩
  have h14 : Reg.OpOK Try.prog (Reg.opsOf Try.f4 8) a0 w0 (stands8_fR a b m ga gb xn n dd e) (fun _ _ _ _ => True) 14 := by
    refine Reg.op_ok2 (fun af => { dst := some 81, op := Op.load 24 (Operand.tmp 3), type := 24, pos := "outright.go:120", after := af, guard := some (13, true) }) #[{ on := 13, ground := Ground.guard }] (by kernel_rfl) [13] (by kernel_rfl) fun af v W hb hd => ?_
    have d13 : v 13 = (Value.bool true) := hd 13 (by decide)
    have e3 := (Reg.gfr_eval0 (ops := (Reg.opsOf Try.f4 8)) (a0 := a0) (v := v) (L := [13]) 3 (by kernel_rfl)).trans i3
    have e80 := (Reg.gfr_eval (ops := (Reg.opsOf Try.f4 8)) (a0 := a0) (v := v) (L := [13]) 80 13 (by kernel_rfl) (by rw [hsz]; omega)).trans d13
    refine ⟨Reg.wanted_of rfl (by kernel_rfl) e80, ?_⟩
    generalize Reg.gfr (Reg.opsOf Try.f4 8) a0 v [13] = G at e3 ⊢
    generalize hρ : G.eval = ρ at e3
    have hρ' : G.eval = ρ := hρ
    exact fun K hK => wp_load_row 24 (.tmp 3) rfl ga (by rw [hρ']; exact e3) 24 (vC a) (0, 0) _ (M_ga W hb) Try.underlying24 rfl (vec_size ha) (hK _ _ ⟨Below.refl _ _, rfl⟩)
  have h15 : Reg.OpOK Try.prog (Reg.opsOf Try.f4 8) a0 w0 (stands8_fR a b m ga gb xn n dd e) (fun _ _ _ _ => True) 15 := by
    refine Reg.op_ok2 (fun af => { dst := some 82, op := Op.load 24 (Operand.tmp 4), type := 24, pos := "outright.go:120", after := af, guard := some (13, true) }) #[{ on := 13, ground := Ground.guard }] (by kernel_rfl) [13] (by kernel_rfl) fun af v W hb hd => ?_
    have d13 : v 13 = (Value.bool true) := hd 13 (by decide)
    have e4 := (Reg.gfr_eval0 (ops := (Reg.opsOf Try.f4 8)) (a0 := a0) (v := v) (L := [13]) 4 (by kernel_rfl)).trans i4
    have e80 := (Reg.gfr_eval (ops := (Reg.opsOf Try.f4 8)) (a0 := a0) (v := v) (L := [13]) 80 13 (by kernel_rfl) (by rw [hsz]; omega)).trans d13
    refine ⟨Reg.wanted_of rfl (by kernel_rfl) e80, ?_⟩
    generalize Reg.gfr (Reg.opsOf Try.f4 8) a0 v [13] = G at e4 ⊢
    generalize hρ : G.eval = ρ at e4
    have hρ' : G.eval = ρ := hρ
    exact fun K hK => wp_load_row 24 (.tmp 4) rfl gb (by rw [hρ']; exact e4) 24 (vC b) (0, 0) _ (M_gb W hb) Try.underlying24 rfl (vec_size hb') (hK _ _ ⟨Below.refl _ _, rfl⟩)
  have h16 : Reg.OpOK Try.prog (Reg.opsOf Try.f4 8) a0 w0 (stands8_fR a b m ga gb xn n dd e) (fun _ _ _ _ => True) 16 := by
    refine Reg.op_ok2 (fun af => { dst := some 83, op := Op.call { callee := Callee.value (Operand.func 16), args := #[Operand.tmp 81, Operand.tmp 82], argTypes := #[24, 24] }, type := 4, pos := "outright.go:120", after := af, guard := some (13, true) }) #[{ on := 14, ground := Ground.data }, { on := 15, ground := Ground.data }, { on := 13, ground := Ground.chain }, { on := 13, ground := Ground.guard }] (by kernel_rfl) [14, 15, 13, 13] (by kernel_rfl) fun af v W hb hd => ?_
    have d13 : v 13 = (Value.bool true) := hd 13 (by decide)
    have d14 : v 14 = (Value.agg (vC a)) := hd 14 (by decide)
    have d15 : v 15 = (Value.agg (vC b)) := hd 15 (by decide)
    have e81 := (Reg.gfr_eval (ops := (Reg.opsOf Try.f4 8)) (a0 := a0) (v := v) (L := [14, 15, 13, 13]) 81 14 (by kernel_rfl) (by rw [hsz]; omega)).trans d14
    have e82 := (Reg.gfr_eval (ops := (Reg.opsOf Try.f4 8)) (a0 := a0) (v := v) (L := [14, 15, 13, 13]) 82 15 (by kernel_rfl) (by rw [hsz]; omega)).trans d15
    have e80 := (Reg.gfr_eval (ops := (Reg.opsOf Try.f4 8)) (a0 := a0) (v := v) (L := [14, 15, 13, 13]) 80 13 (by kernel_rfl) (by rw [hsz]; omega)).trans d13
    refine ⟨Reg.wanted_of rfl (by kernel_rfl) e80, ?_⟩
    have eF : ∀ f, (Reg.gfr (Reg.opsOf Try.f4 8) a0 v [14, 15, 13, 13]).eval (.func f) = .func (.func f) #[] #[] := fun _ => rfl
    generalize Reg.gfr (Reg.opsOf Try.f4 8) a0 v [14, 15, 13, 13] = G at e81 e82 eF ⊢
    generalize hρ : G.eval = ρ at e81 e82 eF
    have hρ' : G.eval = ρ := hρ
    refine Reg.go_call 16 #[(Value.agg (vC a)), (Value.agg (vC b))] (by rw [hρ']; simp [execOp, go_sem, e81, e82, eF]) ((ratmost_any a b ha hb' W).mono fun e w' he => ?_)
    obtain ⟨rfl, hbb⟩ := he
    exact ⟨_, rfl, hbb, (show _ = _ from by rw [f2])⟩
  have h17 : Reg.OpOK Try.prog (Reg.opsOf Try.f4 8) a0 w0 (stands8_fR a b m ga gb xn n dd e) (fun _ _ _ _ => True) 17 := by
    refine Reg.op_ok2 (fun af => { dst := some 84, op := Op.load 24 (Operand.tmp 3), type := 24, pos := "outright.go:120", after := af, guard := some (13, true) }) #[{ on := 13, ground := Ground.guard }] (by kernel_rfl) [13] (by kernel_rfl) fun af v W hb hd => ?_
    have d13 : v 13 = (Value.bool true) := hd 13 (by decide)
    have e3 := (Reg.gfr_eval0 (ops := (Reg.opsOf Try.f4 8)) (a0 := a0) (v := v) (L := [13]) 3 (by kernel_rfl)).trans i3
    have e80 := (Reg.gfr_eval (ops := (Reg.opsOf Try.f4 8)) (a0 := a0) (v := v) (L := [13]) 80 13 (by kernel_rfl) (by rw [hsz]; omega)).trans d13
    refine ⟨Reg.wanted_of rfl (by kernel_rfl) e80, ?_⟩
    generalize Reg.gfr (Reg.opsOf Try.f4 8) a0 v [13] = G at e3 ⊢
    generalize hρ : G.eval = ρ at e3
    have hρ' : G.eval = ρ := hρ
    exact fun K hK => wp_load_row 24 (.tmp 3) rfl ga (by rw [hρ']; exact e3) 24 (vC a) (0, 0) _ (M_ga W hb) Try.underlying24 rfl (vec_size ha) (hK _ _ ⟨Below.refl _ _, rfl⟩)
  have h18 : Reg.OpOK Try.prog (Reg.opsOf Try.f4 8) a0 w0 (stands8_fR a b m ga gb xn n dd e) (fun _ _ _ _ => True) 18 := by
    refine Reg.op_ok2 (fun af => { dst := some 85, op := Op.load 24 (Operand.tmp 4), type := 24, pos := "outright.go:120", after := af, guard := some (13, true) }) #[{ on := 13, ground := Ground.guard }] (by kernel_rfl) [13] (by kernel_rfl) fun af v W hb hd => ?_
    have d13 : v 13 = (Value.bool true) := hd 13 (by decide)
    have e4 := (Reg.gfr_eval0 (ops := (Reg.opsOf Try.f4 8)) (a0 := a0) (v := v) (L := [13]) 4 (by kernel_rfl)).trans i4
    have e80 := (Reg.gfr_eval (ops := (Reg.opsOf Try.f4 8)) (a0 := a0) (v := v) (L := [13]) 80 13 (by kernel_rfl) (by rw [hsz]; omega)).trans d13
    refine ⟨Reg.wanted_of rfl (by kernel_rfl) e80, ?_⟩
    generalize Reg.gfr (Reg.opsOf Try.f4 8) a0 v [13] = G at e4 ⊢
    generalize hρ : G.eval = ρ at e4
    have hρ' : G.eval = ρ := hρ
    exact fun K hK => wp_load_row 24 (.tmp 4) rfl gb (by rw [hρ']; exact e4) 24 (vC b) (0, 0) _ (M_gb W hb) Try.underlying24 rfl (vec_size hb') (hK _ _ ⟨Below.refl _ _, rfl⟩)
  have h19 : Reg.OpOK Try.prog (Reg.opsOf Try.f4 8) a0 w0 (stands8_fR a b m ga gb xn n dd e) (fun _ _ _ _ => True) 19 := by
    refine Reg.op_ok2 (fun af => { dst := some 86, op := Op.call { callee := Callee.value (Operand.func 13), args := #[Operand.tmp 84, Operand.tmp 85], argTypes := #[24, 24] }, type := 4, pos := "outright.go:120", after := af, guard := some (13, true) }) #[{ on := 17, ground := Ground.data }, { on := 18, ground := Ground.data }, { on := 16, ground := Ground.chain }, { on := 13, ground := Ground.guard }] (by kernel_rfl) [17, 18, 16, 13] (by kernel_rfl) fun af v W hb hd => ?_
    have d13 : v 13 = (Value.bool true) := hd 13 (by decide)
    have d17 : v 17 = (Value.agg (vC a)) := hd 17 (by decide)
    have d18 : v 18 = (Value.agg (vC b)) := hd 18 (by decide)
    have e84 := (Reg.gfr_eval (ops := (Reg.opsOf Try.f4 8)) (a0 := a0) (v := v) (L := [17, 18, 16, 13]) 84 17 (by kernel_rfl) (by rw [hsz]; omega)).trans d17
    have e85 := (Reg.gfr_eval (ops := (Reg.opsOf Try.f4 8)) (a0 := a0) (v := v) (L := [17, 18, 16, 13]) 85 18 (by kernel_rfl) (by rw [hsz]; omega)).trans d18
    have e80 := (Reg.gfr_eval (ops := (Reg.opsOf Try.f4 8)) (a0 := a0) (v := v) (L := [17, 18, 16, 13]) 80 13 (by kernel_rfl) (by rw [hsz]; omega)).trans d13
    refine ⟨Reg.wanted_of rfl (by kernel_rfl) e80, ?_⟩
    have eF : ∀ f, (Reg.gfr (Reg.opsOf Try.f4 8) a0 v [17, 18, 16, 13]).eval (.func f) = .func (.func f) #[] #[] := fun _ => rfl
    generalize Reg.gfr (Reg.opsOf Try.f4 8) a0 v [17, 18, 16, 13] = G at e84 e85 eF ⊢
    generalize hρ : G.eval = ρ at e84 e85 eF
    have hρ' : G.eval = ρ := hρ
    refine Reg.go_call 13 #[(Value.agg (vC a)), (Value.agg (vC b))] (by rw [hρ']; simp [execOp, go_sem, e84, e85, eF]) ((atmost_any a b ha hb' W).mono fun e w' he => ?_)
    obtain ⟨rfl, hbb⟩ := he
    exact ⟨_, rfl, hbb, (show _ = _ from by rw [f2])⟩
  have h20 : Reg.OpOK Try.prog (Reg.opsOf Try.f4 8) a0 w0 (stands8_fR a b m ga gb xn n dd e) (fun _ _ _ _ => True) 20 := by
    refine Reg.op_ok2 (fun af => { dst := some 87, op := Op.binOp BinOp.eql 4 (Operand.tmp 83) (Operand.tmp 86) 4, type := 4, pos := "outright.go:120", after := af, guard := some (13, true) }) #[{ on := 16, ground := Ground.data }, { on := 19, ground := Ground.data }, { on := 13, ground := Ground.guard }] (by kernel_rfl) [16, 19, 13] (by kernel_rfl) fun af v W hb hd => ?_
    have d13 : v 13 = (Value.bool true) := hd 13 (by decide)
    have d16 : v 16 = (Value.bool dd) := hd 16 (by decide)
    have d19 : v 19 = (Value.bool dd) := hd 19 (by decide)
    have e83 := (Reg.gfr_eval (ops := (Reg.opsOf Try.f4 8)) (a0 := a0) (v := v) (L := [16, 19, 13]) 83 16 (by kernel_rfl) (by rw [hsz]; omega)).trans d16
    have e86 := (Reg.gfr_eval (ops := (Reg.opsOf Try.f4 8)) (a0 := a0) (v := v) (L := [16, 19, 13]) 86 19 (by kernel_rfl) (by rw [hsz]; omega)).trans d19
    have e80 := (Reg.gfr_eval (ops := (Reg.opsOf Try.f4 8)) (a0 := a0) (v := v) (L := [16, 19, 13]) 80 13 (by kernel_rfl) (by rw [hsz]; omega)).trans d13
    refine ⟨Reg.wanted_of rfl (by kernel_rfl) e80, ?_⟩
    generalize Reg.gfr (Reg.opsOf Try.f4 8) a0 v [16, 19, 13] = G at e83 e86 ⊢
    generalize hρ : G.eval = ρ at e83 e86
    have hρ' : G.eval = ρ := hρ
    refine Reg.go_run (Value.bool true) W ?_ ?_
    · rw [hρ']; simp [execOp, go_sem, e83, e86]
    · exact ⟨Below.refl _ _, rfl⟩
  have h21 : Reg.OpOK Try.prog (Reg.opsOf Try.f4 8) a0 w0 (stands8_fR a b m ga gb xn n dd e) (fun _ _ _ _ => True) 21 := by
    refine Reg.op_ok2 (fun af => { dst := some 88, op := Op.pick (Operand.tmp 80) (Operand.tmp 87) (Operand.const (Value.bool false)), type := 4, pos := "outright.go:120", after := af, guard := none }) #[{ on := 13, ground := Ground.data }, { on := 20, ground := Ground.data }] (by kernel_rfl) [13, 20] (by kernel_rfl) fun af v W hb hd => ?_
    have d13 : v 13 = (Value.bool true) := hd 13 (by decide)
    have d20 : v 20 = (Value.bool true) := hd 20 (by decide)
    have e80 := (Reg.gfr_eval (ops := (Reg.opsOf Try.f4 8)) (a0 := a0) (v := v) (L := [13, 20]) 80 13 (by kernel_rfl) (by rw [hsz]; omega)).trans d13
    have e87 := (Reg.gfr_eval (ops := (Reg.opsOf Try.f4 8)) (a0 := a0) (v := v) (L := [13, 20]) 87 20 (by kernel_rfl) (by rw [hsz]; omega)).trans d20
    refine ⟨Reg.wanted_none rfl, ?_⟩
    have eC : ∀ x, (Reg.gfr (Reg.opsOf Try.f4 8) a0 v [13, 20]).eval (.const x) = x := fun _ => rfl
    generalize Reg.gfr (Reg.opsOf Try.f4 8) a0 v [13, 20] = G at e80 e87 eC ⊢
    generalize hρ : G.eval = ρ at e80 e87 eC
    have hρ' : G.eval = ρ := hρ
    refine Reg.go_run (Value.bool true) W ?_ ?_
    · rw [hρ']; simp [execOp, go_sem, e80, e87, eC]
    · exact ⟨Below.refl _ _, rfl⟩
  have h22 : Reg.OpOK Try.prog (Reg.opsOf Try.f4 8) a0 w0 (stands8_fR a b m ga gb xn n dd e) (fun _ _ _ _ => True) 22 := by
    refine Reg.op_ok2 (fun af => { dst := some 89, op := Op.move (Operand.tmp 88), type := 4, pos := "outright.go:120", after := af, guard := none }) #[{ on := 21, ground := Ground.data }, { on := 19, ground := Ground.chain }] (by kernel_rfl) [21, 19] (by kernel_rfl) fun af v W hb hd => ?_
    have d21 : v 21 = (Value.bool true) := hd 21 (by decide)
    have e88 := (Reg.gfr_eval (ops := (Reg.opsOf Try.f4 8)) (a0 := a0) (v := v) (L := [21, 19]) 88 21 (by kernel_rfl) (by rw [hsz]; omega)).trans d21
    refine ⟨Reg.wanted_none rfl, ?_⟩
    generalize Reg.gfr (Reg.opsOf Try.f4 8) a0 v [21, 19] = G at e88 ⊢
    generalize hρ : G.eval = ρ at e88
    have hρ' : G.eval = ρ := hρ
    refine Reg.go_run (Value.bool true) W ?_ ?_
    · rw [hρ']; simp [execOp, go_sem, e88]
    · exact ⟨Below.refl _ _, rfl⟩
  have h23 : Reg.OpOK Try.prog (Reg.opsOf Try.f4 8) a0 w0 (stands8_fR a b m ga gb xn n dd e) (fun _ _ _ _ => True) 23 := by
    refine Reg.op_ok2 (fun af => { dst := some 90, op := Op.load 24 (Operand.tmp 3), type := 24, pos := "outright.go:120", after := af, guard := some (22, true) }) #[{ on := 22, ground := Ground.guard }] (by kernel_rfl) [22] (by kernel_rfl) fun af v W hb hd => ?_
    have d22 : v 22 = (Value.bool true) := hd 22 (by decide)
    have e3 := (Reg.gfr_eval0 (ops := (Reg.opsOf Try.f4 8)) (a0 := a0) (v := v) (L := [22]) 3 (by kernel_rfl)).trans i3
    have e89 := (Reg.gfr_eval (ops := (Reg.opsOf Try.f4 8)) (a0 := a0) (v := v) (L := [22]) 89 22 (by kernel_rfl) (by rw [hsz]; omega)).trans d22
    refine ⟨Reg.wanted_of rfl (by kernel_rfl) e89, ?_⟩
    generalize Reg.gfr (Reg.opsOf Try.f4 8) a0 v [22] = G at e3 ⊢
    generalize hρ : G.eval = ρ at e3
    have hρ' : G.eval = ρ := hρ
    exact fun K hK => wp_load_row 24 (.tmp 3) rfl ga (by rw [hρ']; exact e3) 24 (vC a) (0, 0) _ (M_ga W hb) Try.underlying24 rfl (vec_size ha) (hK _ _ ⟨Below.refl _ _, rfl⟩)
  have h24 : Reg.OpOK Try.prog (Reg.opsOf Try.f4 8) a0 w0 (stands8_fR a b m ga gb xn n dd e) (fun _ _ _ _ => True) 24 := by
    refine Reg.op_ok2 (fun af => { dst := some 91, op := Op.load 24 (Operand.tmp 3), type := 24, pos := "outright.go:120", after := af, guard := some (22, true) }) #[{ on := 22, ground := Ground.guard }] (by kernel_rfl) [22] (by kernel_rfl) fun af v W hb hd => ?_
    have d22 : v 22 = (Value.bool true) := hd 22 (by decide)
    have e3 := (Reg.gfr_eval0 (ops := (Reg.opsOf Try.f4 8)) (a0 := a0) (v := v) (L := [22]) 3 (by kernel_rfl)).trans i3
    have e89 := (Reg.gfr_eval (ops := (Reg.opsOf Try.f4 8)) (a0 := a0) (v := v) (L := [22]) 89 22 (by kernel_rfl) (by rw [hsz]; omega)).trans d22
    refine ⟨Reg.wanted_of rfl (by kernel_rfl) e89, ?_⟩
    generalize Reg.gfr (Reg.opsOf Try.f4 8) a0 v [22] = G at e3 ⊢
    generalize hρ : G.eval = ρ at e3
    have hρ' : G.eval = ρ := hρ
    exact fun K hK => wp_load_row 24 (.tmp 3) rfl ga (by rw [hρ']; exact e3) 24 (vC a) (0, 0) _ (M_ga W hb) Try.underlying24 rfl (vec_size ha) (hK _ _ ⟨Below.refl _ _, rfl⟩)
  have h25 : Reg.OpOK Try.prog (Reg.opsOf Try.f4 8) a0 w0 (stands8_fR a b m ga gb xn n dd e) (fun _ _ _ _ => True) 25 := by
    refine Reg.op_ok2 (fun af => { dst := some 92, op := Op.load 24 (Operand.tmp 4), type := 24, pos := "outright.go:120", after := af, guard := some (22, true) }) #[{ on := 22, ground := Ground.guard }] (by kernel_rfl) [22] (by kernel_rfl) fun af v W hb hd => ?_
    have d22 : v 22 = (Value.bool true) := hd 22 (by decide)
    have e4 := (Reg.gfr_eval0 (ops := (Reg.opsOf Try.f4 8)) (a0 := a0) (v := v) (L := [22]) 4 (by kernel_rfl)).trans i4
    have e89 := (Reg.gfr_eval (ops := (Reg.opsOf Try.f4 8)) (a0 := a0) (v := v) (L := [22]) 89 22 (by kernel_rfl) (by rw [hsz]; omega)).trans d22
    refine ⟨Reg.wanted_of rfl (by kernel_rfl) e89, ?_⟩
    generalize Reg.gfr (Reg.opsOf Try.f4 8) a0 v [22] = G at e4 ⊢
    generalize hρ : G.eval = ρ at e4
    have hρ' : G.eval = ρ := hρ
    exact fun K hK => wp_load_row 24 (.tmp 4) rfl gb (by rw [hρ']; exact e4) 24 (vC b) (0, 0) _ (M_gb W hb) Try.underlying24 rfl (vec_size hb') (hK _ _ ⟨Below.refl _ _, rfl⟩)
  have h26 : Reg.OpOK Try.prog (Reg.opsOf Try.f4 8) a0 w0 (stands8_fR a b m ga gb xn n dd e) (fun _ _ _ _ => True) 26 := by
    refine Reg.op_ok2 (fun af => { dst := some 93, op := Op.buildSlice 43 2 #[(0, Operand.tmp 91), (1, Operand.tmp 92)], type := 43, pos := "outright.go:120", after := af, guard := some (22, true) }) #[{ on := 24, ground := Ground.data }, { on := 25, ground := Ground.data }, { on := 22, ground := Ground.guard }] (by kernel_rfl) [24, 25, 22] (by kernel_rfl) fun af v W hb hd => ?_
    have d22 : v 22 = (Value.bool true) := hd 22 (by decide)
    have d24 : v 24 = (Value.agg (vC a)) := hd 24 (by decide)
    have d25 : v 25 = (Value.agg (vC b)) := hd 25 (by decide)
    have e91 := (Reg.gfr_eval (ops := (Reg.opsOf Try.f4 8)) (a0 := a0) (v := v) (L := [24, 25, 22]) 91 24 (by kernel_rfl) (by rw [hsz]; omega)).trans d24
    have e92 := (Reg.gfr_eval (ops := (Reg.opsOf Try.f4 8)) (a0 := a0) (v := v) (L := [24, 25, 22]) 92 25 (by kernel_rfl) (by rw [hsz]; omega)).trans d25
    have e89 := (Reg.gfr_eval (ops := (Reg.opsOf Try.f4 8)) (a0 := a0) (v := v) (L := [24, 25, 22]) 89 22 (by kernel_rfl) (by rw [hsz]; omega)).trans d22
    refine ⟨Reg.wanted_of rfl (by kernel_rfl) e89, ?_⟩
    generalize Reg.gfr (Reg.opsOf Try.f4 8) a0 v [24, 25, 22] = G at e91 e92 ⊢
    generalize hρ : G.eval = ρ at e91 e92
    have hρ' : G.eval = ρ := hρ
    exact Reg.go_build 43 24 2 _ rfl Try.underlying43 _ (by rw [hρ']; exact built_vecs [a, b] (by simp [ha, hb']) (by simp) (by simp) _ (by simp [e91, e92])) ⟨(Below.refl _ W).alloc (Nat.le_refl _) _, ⟨_, rfl, heap_alloc_new _ _⟩⟩
  have h27 : Reg.OpOK Try.prog (Reg.opsOf Try.f4 8) a0 w0 (stands8_fR a b m ga gb xn n dd e) (fun _ _ _ _ => True) 27 := by
    refine Reg.op_ok2 (fun af => { dst := some 94, op := Op.call { callee := Callee.value (Operand.func 11), args := #[Operand.tmp 93], argTypes := #[43] }, type := 24, pos := "outright.go:120", after := af, guard := some (22, true) }) #[{ on := 26, ground := Ground.data }, { on := 22, ground := Ground.chain }, { on := 22, ground := Ground.guard }] (by kernel_rfl) [26, 22, 22] (by kernel_rfl) fun af v W hb hd => ?_
    have d22 : v 22 = (Value.bool true) := hd 22 (by decide)
    have d26 : (Reg.IsRow 24 (vecs [a, b]).toArray 2) (v 26) W := hd 26 (by decide)
    have e93 := Reg.gfr_eval (ops := (Reg.opsOf Try.f4 8)) (a0 := a0) (v := v) (L := [26, 22, 22]) 93 26 (by kernel_rfl) (by rw [hsz]; omega)
    have e89 := (Reg.gfr_eval (ops := (Reg.opsOf Try.f4 8)) (a0 := a0) (v := v) (L := [26, 22, 22]) 89 22 (by kernel_rfl) (by rw [hsz]; omega)).trans d22
    obtain ⟨gr, hg1, hg2⟩ := d26
    rw [hg1] at e93
    refine ⟨Reg.wanted_of rfl (by kernel_rfl) e89, ?_⟩
    have eF : ∀ f, (Reg.gfr (Reg.opsOf Try.f4 8) a0 v [26, 22, 22]).eval (.func f) = .func (.func f) #[] #[] := fun _ => rfl
    generalize Reg.gfr (Reg.opsOf Try.f4 8) a0 v [26, 22, 22] = G at e93 eF ⊢
    generalize hρ : G.eval = ρ at e93 eF
    have hρ' : G.eval = ρ := hρ
    refine Reg.go_call 11 #[(Value.slice (some ⟨gr, 0, none⟩) 2 2)] (by rw [hρ']; simp [execOp, go_sem, e93, eF]) ((merge2 a b ha hb' W gr hg2).mono fun e w' he => ?_)
    obtain ⟨rfl, hbb⟩ := he
    exact ⟨_, rfl, hbb, (show _ = _ from by rw [m1])⟩
  have h28 : Reg.OpOK Try.prog (Reg.opsOf Try.f4 8) a0 w0 (stands8_fR a b m ga gb xn n dd e) (fun _ _ _ _ => True) 28 := by
    refine Reg.op_ok2 (fun af => { dst := some 95, op := Op.call { callee := Callee.value (Operand.func 15), args := #[Operand.tmp 90, Operand.tmp 94], argTypes := #[24, 24] }, type := 31, pos := "outright.go:120", after := af, guard := some (22, true) }) #[{ on := 23, ground := Ground.data }, { on := 27, ground := Ground.data }, { on := 27, ground := Ground.chain }, { on := 22, ground := Ground.guard }] (by kernel_rfl) [23, 27, 27, 22] (by kernel_rfl) fun af v W hb hd => ?_
    have d22 : v 22 = (Value.bool true) := hd 22 (by decide)
    have d23 : v 23 = (Value.agg (vC a)) := hd 23 (by decide)
    have d27 : v 27 = (Value.agg (vC m)) := hd 27 (by decide)
    have e90 := (Reg.gfr_eval (ops := (Reg.opsOf Try.f4 8)) (a0 := a0) (v := v) (L := [23, 27, 27, 22]) 90 23 (by kernel_rfl) (by rw [hsz]; omega)).trans d23
    have e94 := (Reg.gfr_eval (ops := (Reg.opsOf Try.f4 8)) (a0 := a0) (v := v) (L := [23, 27, 27, 22]) 94 27 (by kernel_rfl) (by rw [hsz]; omega)).trans d27
    have e89 := (Reg.gfr_eval (ops := (Reg.opsOf Try.f4 8)) (a0 := a0) (v := v) (L := [23, 27, 27, 22]) 89 22 (by kernel_rfl) (by rw [hsz]; omega)).trans d22
    refine ⟨Reg.wanted_of rfl (by kernel_rfl) e89, ?_⟩
    have eF : ∀ f, (Reg.gfr (Reg.opsOf Try.f4 8) a0 v [23, 27, 27, 22]).eval (.func f) = .func (.func f) #[] #[] := fun _ => rfl
    generalize Reg.gfr (Reg.opsOf Try.f4 8) a0 v [23, 27, 27, 22] = G at e90 e94 eF ⊢
    generalize hρ : G.eval = ρ at e90 e94 eF
    have hρ' : G.eval = ρ := hρ
    refine Reg.go_call 15 #[(Value.agg (vC a)), (Value.agg (vC m))] (by rw [hρ']; simp [execOp, go_sem, e90, e94, eF]) ((lacks_any a m ha hm sa sm W).mono fun e w' he => ?_)
    obtain ⟨rfl, hbb⟩ := he
    exact ⟨_, rfl, hbb, (show _ = _ from by rw [f3])⟩
  have h29 : Reg.OpOK Try.prog (Reg.opsOf Try.f4 8) a0 w0 (stands8_fR a b m ga gb xn n dd e) (fun _ _ _ _ => True) 29 := by
    refine Reg.op_ok2 (fun af => { dst := some 96, op := Op.load 24 (Operand.tmp 3), type := 24, pos := "outright.go:120", after := af, guard := some (22, true) }) #[{ on := 22, ground := Ground.guard }] (by kernel_rfl) [22] (by kernel_rfl) fun af v W hb hd => ?_
    have d22 : v 22 = (Value.bool true) := hd 22 (by decide)
    have e3 := (Reg.gfr_eval0 (ops := (Reg.opsOf Try.f4 8)) (a0 := a0) (v := v) (L := [22]) 3 (by kernel_rfl)).trans i3
    have e89 := (Reg.gfr_eval (ops := (Reg.opsOf Try.f4 8)) (a0 := a0) (v := v) (L := [22]) 89 22 (by kernel_rfl) (by rw [hsz]; omega)).trans d22
    refine ⟨Reg.wanted_of rfl (by kernel_rfl) e89, ?_⟩
    generalize Reg.gfr (Reg.opsOf Try.f4 8) a0 v [22] = G at e3 ⊢
    generalize hρ : G.eval = ρ at e3
    have hρ' : G.eval = ρ := hρ
    exact fun K hK => wp_load_row 24 (.tmp 3) rfl ga (by rw [hρ']; exact e3) 24 (vC a) (0, 0) _ (M_ga W hb) Try.underlying24 rfl (vec_size ha) (hK _ _ ⟨Below.refl _ _, rfl⟩)
  have h30 : Reg.OpOK Try.prog (Reg.opsOf Try.f4 8) a0 w0 (stands8_fR a b m ga gb xn n dd e) (fun _ _ _ _ => True) 30 := by
    refine Reg.op_ok2 (fun af => { dst := some 97, op := Op.load 24 (Operand.tmp 4), type := 24, pos := "outright.go:120", after := af, guard := some (22, true) }) #[{ on := 22, ground := Ground.guard }] (by kernel_rfl) [22] (by kernel_rfl) fun af v W hb hd => ?_
    have d22 : v 22 = (Value.bool true) := hd 22 (by decide)
    have e4 := (Reg.gfr_eval0 (ops := (Reg.opsOf Try.f4 8)) (a0 := a0) (v := v) (L := [22]) 4 (by kernel_rfl)).trans i4
    have e89 := (Reg.gfr_eval (ops := (Reg.opsOf Try.f4 8)) (a0 := a0) (v := v) (L := [22]) 89 22 (by kernel_rfl) (by rw [hsz]; omega)).trans d22
    refine ⟨Reg.wanted_of rfl (by kernel_rfl) e89, ?_⟩
    generalize Reg.gfr (Reg.opsOf Try.f4 8) a0 v [22] = G at e4 ⊢
    generalize hρ : G.eval = ρ at e4
    have hρ' : G.eval = ρ := hρ
    exact fun K hK => wp_load_row 24 (.tmp 4) rfl gb (by rw [hρ']; exact e4) 24 (vC b) (0, 0) _ (M_gb W hb) Try.underlying24 rfl (vec_size hb') (hK _ _ ⟨Below.refl _ _, rfl⟩)
  have h31 : Reg.OpOK Try.prog (Reg.opsOf Try.f4 8) a0 w0 (stands8_fR a b m ga gb xn n dd e) (fun _ _ _ _ => True) 31 := by
    refine Reg.op_ok2 (fun af => { dst := some 98, op := Op.call { callee := Callee.value (Operand.func 15), args := #[Operand.tmp 96, Operand.tmp 97], argTypes := #[24, 24] }, type := 31, pos := "outright.go:120", after := af, guard := some (22, true) }) #[{ on := 29, ground := Ground.data }, { on := 30, ground := Ground.data }, { on := 28, ground := Ground.chain }, { on := 22, ground := Ground.guard }] (by kernel_rfl) [29, 30, 28, 22] (by kernel_rfl) fun af v W hb hd => ?_
    have d22 : v 22 = (Value.bool true) := hd 22 (by decide)
    have d29 : v 29 = (Value.agg (vC a)) := hd 29 (by decide)
    have d30 : v 30 = (Value.agg (vC b)) := hd 30 (by decide)
    have e96 := (Reg.gfr_eval (ops := (Reg.opsOf Try.f4 8)) (a0 := a0) (v := v) (L := [29, 30, 28, 22]) 96 29 (by kernel_rfl) (by rw [hsz]; omega)).trans d29
    have e97 := (Reg.gfr_eval (ops := (Reg.opsOf Try.f4 8)) (a0 := a0) (v := v) (L := [29, 30, 28, 22]) 97 30 (by kernel_rfl) (by rw [hsz]; omega)).trans d30
    have e89 := (Reg.gfr_eval (ops := (Reg.opsOf Try.f4 8)) (a0 := a0) (v := v) (L := [29, 30, 28, 22]) 89 22 (by kernel_rfl) (by rw [hsz]; omega)).trans d22
    refine ⟨Reg.wanted_of rfl (by kernel_rfl) e89, ?_⟩
    have eF : ∀ f, (Reg.gfr (Reg.opsOf Try.f4 8) a0 v [29, 30, 28, 22]).eval (.func f) = .func (.func f) #[] #[] := fun _ => rfl
    generalize Reg.gfr (Reg.opsOf Try.f4 8) a0 v [29, 30, 28, 22] = G at e96 e97 eF ⊢
    generalize hρ : G.eval = ρ at e96 e97 eF
    have hρ' : G.eval = ρ := hρ
    refine Reg.go_call 15 #[(Value.agg (vC a)), (Value.agg (vC b))] (by rw [hρ']; simp [execOp, go_sem, e96, e97, eF]) ((lacks_any a b ha hb' sa sb W).mono fun e w' he => ?_)
    obtain ⟨rfl, hbb⟩ := he
    exact ⟨_, rfl, hbb, (show _ = _ from by rw [f4])⟩
  have h32 : Reg.OpOK Try.prog (Reg.opsOf Try.f4 8) a0 w0 (stands8_fR a b m ga gb xn n dd e) (fun _ _ _ _ => True) 32 := by
    refine Reg.op_ok2 (fun af => { dst := some 99, op := Op.binOp BinOp.eql 31 (Operand.tmp 95) (Operand.tmp 98) 31, type := 4, pos := "outright.go:120", after := af, guard := some (22, true) }) #[{ on := 28, ground := Ground.data }, { on := 31, ground := Ground.data }, { on := 22, ground := Ground.guard }] (by kernel_rfl) [28, 31, 22] (by kernel_rfl) fun af v W hb hd => ?_
    have d22 : v 22 = (Value.bool true) := hd 22 (by decide)
    have d28 : v 28 = (Value.int IntKind.u64 (n : Int)) := hd 28 (by decide)
    have d31 : v 31 = (Value.int IntKind.u64 (n : Int)) := hd 31 (by decide)
    have e95 := (Reg.gfr_eval (ops := (Reg.opsOf Try.f4 8)) (a0 := a0) (v := v) (L := [28, 31, 22]) 95 28 (by kernel_rfl) (by rw [hsz]; omega)).trans d28
    have e98 := (Reg.gfr_eval (ops := (Reg.opsOf Try.f4 8)) (a0 := a0) (v := v) (L := [28, 31, 22]) 98 31 (by kernel_rfl) (by rw [hsz]; omega)).trans d31
    have e89 := (Reg.gfr_eval (ops := (Reg.opsOf Try.f4 8)) (a0 := a0) (v := v) (L := [28, 31, 22]) 89 22 (by kernel_rfl) (by rw [hsz]; omega)).trans d22
    refine ⟨Reg.wanted_of rfl (by kernel_rfl) e89, ?_⟩
    generalize Reg.gfr (Reg.opsOf Try.f4 8) a0 v [28, 31, 22] = G at e95 e98 ⊢
    generalize hρ : G.eval = ρ at e95 e98
    have hρ' : G.eval = ρ := hρ
    refine Reg.go_run (Value.bool true) W ?_ ?_
    · rw [hρ']; simp [execOp, go_sem, e95, e98]
    · exact ⟨Below.refl _ _, rfl⟩
  have h33 : Reg.OpOK Try.prog (Reg.opsOf Try.f4 8) a0 w0 (stands8_fR a b m ga gb xn n dd e) (fun _ _ _ _ => True) 33 := by
    refine Reg.op_ok2 (fun af => { dst := some 100, op := Op.pick (Operand.tmp 89) (Operand.tmp 99) (Operand.const (Value.bool false)), type := 4, pos := "outright.go:120", after := af, guard := none }) #[{ on := 22, ground := Ground.data }, { on := 32, ground := Ground.data }] (by kernel_rfl) [22, 32] (by kernel_rfl) fun af v W hb hd => ?_
    have d22 : v 22 = (Value.bool true) := hd 22 (by decide)
    have d32 : v 32 = (Value.bool true) := hd 32 (by decide)
    have e89 := (Reg.gfr_eval (ops := (Reg.opsOf Try.f4 8)) (a0 := a0) (v := v) (L := [22, 32]) 89 22 (by kernel_rfl) (by rw [hsz]; omega)).trans d22
    have e99 := (Reg.gfr_eval (ops := (Reg.opsOf Try.f4 8)) (a0 := a0) (v := v) (L := [22, 32]) 99 32 (by kernel_rfl) (by rw [hsz]; omega)).trans d32
    refine ⟨Reg.wanted_none rfl, ?_⟩
    have eC : ∀ x, (Reg.gfr (Reg.opsOf Try.f4 8) a0 v [22, 32]).eval (.const x) = x := fun _ => rfl
    generalize Reg.gfr (Reg.opsOf Try.f4 8) a0 v [22, 32] = G at e89 e99 eC ⊢
    generalize hρ : G.eval = ρ at e89 e99 eC
    have hρ' : G.eval = ρ := hρ
    refine Reg.go_run (Value.bool true) W ?_ ?_
    · rw [hρ']; simp [execOp, go_sem, e89, e99, eC]
    · exact ⟨Below.refl _ _, rfl⟩
  have h34 : Reg.OpOK Try.prog (Reg.opsOf Try.f4 8) a0 w0 (stands8_fR a b m ga gb xn n dd e) (fun _ _ _ _ => True) 34 := by
    refine Reg.op_ok2 (fun af => { dst := some 6, op := Op.assign (Operand.tmp 100), type := 4, pos := "outright.go:120", after := af, guard := none }) #[{ on := 33, ground := Ground.data }, { on := 31, ground := Ground.chain }, { on := 0, ground := Ground.phase }, { on := 1, ground := Ground.phase }, { on := 2, ground := Ground.phase }, { on := 3, ground := Ground.phase }, { on := 4, ground := Ground.phase }, { on := 5, ground := Ground.phase }, { on := 6, ground := Ground.phase }, { on := 7, ground := Ground.phase }, { on := 8, ground := Ground.phase }, { on := 9, ground := Ground.phase }, { on := 10, ground := Ground.phase }, { on := 11, ground := Ground.phase }, { on := 12, ground := Ground.phase }, { on := 13, ground := Ground.phase }, { on := 14, ground := Ground.phase }, { on := 15, ground := Ground.phase }, { on := 16, ground := Ground.phase }, { on := 17, ground := Ground.phase }, { on := 18, ground := Ground.phase }, { on := 19, ground := Ground.phase }, { on := 20, ground := Ground.phase }, { on := 21, ground := Ground.phase }, { on := 22, ground := Ground.phase }, { on := 23, ground := Ground.phase }, { on := 24, ground := Ground.phase }, { on := 25, ground := Ground.phase }, { on := 26, ground := Ground.phase }, { on := 27, ground := Ground.phase }, { on := 28, ground := Ground.phase }, { on := 29, ground := Ground.phase }, { on := 30, ground := Ground.phase }, { on := 31, ground := Ground.phase }, { on := 32, ground := Ground.phase }, { on := 33, ground := Ground.phase }] (by kernel_rfl) [33, 31, 0, 1, 2, 3, 4, 5, 6, 7, 8, 9, 10, 11, 12, 13, 14, 15, 16, 17, 18, 19, 20, 21, 22, 23, 24, 25, 26, 27, 28, 29, 30, 31, 32, 33] (by kernel_rfl) fun af v W hb hd => ?_
    have d33 : v 33 = (Value.bool true) := hd 33 (by decide)
    have e100 := (Reg.gfr_eval (ops := (Reg.opsOf Try.f4 8)) (a0 := a0) (v := v) (L := [33, 31, 0, 1, 2, 3, 4, 5, 6, 7, 8, 9, 10, 11, 12, 13, 14, 15, 16, 17, 18, 19, 20, 21, 22, 23, 24, 25, 26, 27, 28, 29, 30, 31, 32, 33]) 100 33 (by kernel_rfl) (by rw [hsz]; omega)).trans d33
    refine ⟨Reg.wanted_none rfl, ?_⟩
    generalize Reg.gfr (Reg.opsOf Try.f4 8) a0 v [33, 31, 0, 1, 2, 3, 4, 5, 6, 7, 8, 9, 10, 11, 12, 13, 14, 15, 16, 17, 18, 19, 20, 21, 22, 23, 24, 25, 26, 27, 28, 29, 30, 31, 32, 33] = G at e100 ⊢
    generalize hρ : G.eval = ρ at e100
    have hρ' : G.eval = ρ := hρ
    refine Reg.go_run (Value.bool true) W ?_ ?_
    · rw [hρ']; simp [execOp, go_sem, e100]
    · exact ⟨Below.refl _ _, rfl⟩
  refine Reg.region_all (by kernel_rfl) (stands8_fR a b m ga gb xn n dd e) (by rw [hn, hsz]; kernel_rfl) (stands8_f_stable a b m ga gb xn n dd e) (fun i hi => ?_) (fun v w hb hR => ?_)
  · rw [hn] at hi
    match i, List.mem_range.1 hi with
    | 0, _ => exact h0
    | 1, _ => exact h1
    | 2, _ => exact h2
    | 3, _ => exact h3
    | 4, _ => exact h4
    | 5, _ => exact h5
    | 6, _ => exact h6
    | 7, _ => exact h7
    | 8, _ => exact h8
    | 9, _ => exact h9
    | 10, _ => exact h10
    | 11, _ => exact h11
    | 12, _ => exact h12
    | 13, _ => exact h13
    | 14, _ => exact h14
    | 15, _ => exact h15
    | 16, _ => exact h16
    | 17, _ => exact h17
    | 18, _ => exact h18
    | 19, _ => exact h19
    | 20, _ => exact h20
    | 21, _ => exact h21
    | 22, _ => exact h22
    | 23, _ => exact h23
    | 24, _ => exact h24
    | 25, _ => exact h25
    | 26, _ => exact h26
    | 27, _ => exact h27
    | 28, _ => exact h28
    | 29, _ => exact h29
    | 30, _ => exact h30
    | 31, _ => exact h31
    | 32, _ => exact h32
    | 33, _ => exact h33
    | 34, _ => exact h34
    | (_ + 35), h => omega
  · rw [hn] at hR ⊢
    have v0 : v 0 = (Value.bool true) := hR 0 (by decide)
    have v1 : v 1 = (Value.bool true) := hR 1 (by decide)
    have v2 : v 2 = (Value.agg (vC a)) := hR 2 (by decide)
    have v3 : v 3 = (Value.agg (vC b)) := hR 3 (by decide)
    have v4 : v 4 = (Value.bool dd) := hR 4 (by decide)
    have v5 : v 5 = (Value.int IntKind.i64 (xn : Int)) := hR 5 (by decide)
    have v6 : v 6 = (Value.bool false) := hR 6 (by decide)
    have v7 : v 7 = (Value.bool false) := hR 7 (by decide)
    have v8 : v 8 = (Value.int IntKind.i64 (xn : Int)) := hR 8 (by decide)
    have v9 : v 9 = (Value.bool dd) := hR 9 (by decide)
    have v10 : v 10 = (Value.bool dd) := hR 10 (by decide)
    have v11 : v 11 = (Value.bool true) := hR 11 (by decide)
    have v12 : v 12 = (Value.bool true) := hR 12 (by decide)
    have v13 : v 13 = (Value.bool true) := hR 13 (by decide)
    have v14 : v 14 = (Value.agg (vC a)) := hR 14 (by decide)
    have v15 : v 15 = (Value.agg (vC b)) := hR 15 (by decide)
    have v16 : v 16 = (Value.bool dd) := hR 16 (by decide)
    have v17 : v 17 = (Value.agg (vC a)) := hR 17 (by decide)
    have v18 : v 18 = (Value.agg (vC b)) := hR 18 (by decide)
    have v19 : v 19 = (Value.bool dd) := hR 19 (by decide)
    have v20 : v 20 = (Value.bool true) := hR 20 (by decide)
    have v21 : v 21 = (Value.bool true) := hR 21 (by decide)
    have v22 : v 22 = (Value.bool true) := hR 22 (by decide)
    have v23 : v 23 = (Value.agg (vC a)) := hR 23 (by decide)
    have v24 : v 24 = (Value.agg (vC a)) := hR 24 (by decide)
    have v25 : v 25 = (Value.agg (vC b)) := hR 25 (by decide)
    have v27 : v 27 = (Value.agg (vC m)) := hR 27 (by decide)
    have v28 : v 28 = (Value.int IntKind.u64 (n : Int)) := hR 28 (by decide)
    have v29 : v 29 = (Value.agg (vC a)) := hR 29 (by decide)
    have v30 : v 30 = (Value.agg (vC b)) := hR 30 (by decide)
    have v31 : v 31 = (Value.int IntKind.u64 (n : Int)) := hR 31 (by decide)
    have v32 : v 32 = (Value.bool true) := hR 32 (by decide)
    have v33 : v 33 = (Value.bool true) := hR 33 (by decide)
    have v34 : v 34 = (Value.bool true) := hR 34 (by decide)
    rw [hfin v, v0, v1, v2, v3, v4, v5, v6, v7, v8, v9, v10, v11, v12, v13, v14, v15, v16, v17, v18, v19, v20, v21, v22, v23, v24, v25, v27, v28, v29, v30, v31, v32, v33, v34]
    exact hend w (v 26) hb 
end Go.Proofs.Ytfifbjlmbdgmjaa
