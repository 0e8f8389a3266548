/- Regions that draw their order: their obligations (printed by regen2.py). -/
import Derived.Test.YtfifbjlmbdgmjaaVecO
import Derived.Test.YtfifbjlmbdgmjaaRegS
namespace Go.Proofs.Ytfifbjlmbdgmjaa
open Go.RowKit
def lattice5_ttR (a b c u l : List Nat) (ga gb gc gu gl : Nat) (q s : Bool) : Nat → Value → World → Prop
  | 0 => fun x_ _ => x_ = (Value.agg (vC a))
  | 1 => fun x_ _ => x_ = (Value.agg (vC c))
  | 2 => fun x_ _ => x_ = (Value.bool true)
  | 3 => fun x_ _ => x_ = (Value.bool true)
  | 4 => fun x_ _ => x_ = (Value.agg (vC b))
  | 5 => fun x_ _ => x_ = (Value.agg (vC c))
  | 6 => fun x_ _ => x_ = (Value.bool q)
  | 7 => fun x_ _ => x_ = (Value.bool q)
  | 8 => fun x_ _ => x_ = (Value.agg (vC u))
  | 9 => fun x_ _ => x_ = (Value.agg (vC c))
  | 10 => fun x_ _ => x_ = (Value.bool q)
  | 11 => fun x_ _ => x_ = (Value.bool false)
  | 12 => fun x_ _ => x_ = (Value.bool false)
  | 13 => fun x_ _ => x_ = (Value.agg (vC c))
  | 14 => fun x_ _ => x_ = (Value.agg (vC a))
  | 15 => fun x_ _ => x_ = (Value.bool true)
  | 16 => fun x_ _ => x_ = (Value.bool true)
  | 17 => fun x_ _ => x_ = (Value.agg (vC c))
  | 18 => fun x_ _ => x_ = (Value.agg (vC b))
  | 19 => fun x_ _ => x_ = (Value.bool s)
  | 20 => fun x_ _ => x_ = (Value.bool s)
  | 21 => fun x_ _ => x_ = (Value.agg (vC c))
  | 22 => fun x_ _ => x_ = (Value.agg (vC l))
  | 23 => fun x_ _ => x_ = (Value.bool s)
  | 24 => fun x_ _ => x_ = (Value.bool false)
  | 25 => fun x_ _ => x_ = (Value.bool false)
  | _ => fun _ _ => True
theorem lattice5_tt_stable (a b c u l : List Nat) (ga gb gc gu gl : Nat) (q s : Bool) : ∀ i_ u_ w_ w_', (lattice5_ttR a b c u l ga gb gc gu gl q s) i_ u_ w_ → Below w_.heap.size w_ w_' → (lattice5_ttR a b c u l ga gb gc gu gl q s) i_ u_ w_' := fun i_ u_ w_ w_' h_ hb_ => by
  match i_, h_ with
  | 0, h_ => exact h_
  | 1, h_ => exact h_
  | 2, h_ => exact h_
  | 3, h_ => exact h_
  | 4, h_ => exact h_
  | 5, h_ => exact h_
  | 6, h_ => exact h_
  | 7, h_ => exact h_
  | 8, h_ => exact h_
  | 9, h_ => exact h_
  | 10, h_ => exact h_
  | 11, h_ => exact h_
  | 12, h_ => exact h_
  | 13, h_ => exact h_
  | 14, h_ => exact h_
  | 15, h_ => exact h_
  | 16, h_ => exact h_
  | 17, h_ => exact h_
  | 18, h_ => exact h_
  | 19, h_ => exact h_
  | 20, h_ => exact h_
  | 21, h_ => exact h_
  | 22, h_ => exact h_
  | 23, h_ => exact h_
  | 24, h_ => exact h_
  | 25, h_ => exact h_
  | (_ + 26), _ => trivial
set_option maxHeartbeats 4000000 in
set_option maxRecDepth 20000 in
theorem lattice5_tt (a b c u l : List Nat) (ga gb gc gu gl : Nat) (q s : Bool) (w0 : World) {s0 s1 s2 s6 s7 s10 s11 s12 s13 s14 s15 s16 s17 s18 s19 s20 s21 s22 s23 s24 s25 s26 s27 s28 s29 s30 s31 s32 s33 s34 s35 s36 s37 s38 s39 s40 s41 s42 s43 s44 s45 s46 s47 s48 s49 s50 s51 s52 s53 s54 s55 s56 s57 s58 s59 s60 s61 s62 s63 s64 s65 s66 s67 s68 s69 s70 s71 s72 s73 s74 s75 s76 s77 s78 s79 s80 s81 s82 s83 s84 s85 s86 s87 s88 s89 s90 s91 s92 s93 s94 s95 s96 s97 s98 s99 s100 s101 s102 s103 s104 s105 s106 s107 s108 s109 s110 s111 s112 s113 s114 s115 s116 s117 s118 s119 s120 s121 s122 s123 s124 s125 s126 s127 s128 s129 s130 s131 s132 s133 s134 s135 s136 s137 s138 s139 s140 : Value}
    (ha : a.length = 16) (hb' : b.length = 16) (hc : c.length = 16) (hu : u.length = 16) (hl : l.length = 16)
    (f1 : decide (maxV a c = c) = true) (f2 : decide (maxV b c = c) = q) (f3 : decide (maxV u c = c) = q) (f4 : decide (maxV c a = a) = true) (f5 : decide (maxV c b = b) = s) (f6 : decide (maxV c l = l) = s)
    (M_ga : ∀ W, Below w0.heap.size w0 W → W.heap[ga]? = some (.cells (vC a) 24 (0, 0)))
    (M_gb : ∀ W, Below w0.heap.size w0 W → W.heap[gb]? = some (.cells (vC b) 24 (0, 0)))
    (M_gc : ∀ W, Below w0.heap.size w0 W → W.heap[gc]? = some (.cells (vC c) 24 (0, 0)))
    (M_gu : ∀ W, Below w0.heap.size w0 W → W.heap[gu]? = some (.cells (vC u) 24 (0, 0)))
    (M_gl : ∀ W, Below w0.heap.size w0 W → W.heap[gl]? = some (.cells (vC l) 24 (0, 0)))
    {Q : Exit → Act → World → Prop}
    (hend : ∀ (w : World), Below w0.heap.size w0 w → Q .normal { tmps := #[s0, s1, s2, (Value.pointer (some ⟨ga, 0, none⟩)), (Value.pointer (some ⟨gb, 0, none⟩)), (Value.pointer (some ⟨gc, 0, none⟩)), s6, s7, (Value.pointer (some ⟨gu, 0, none⟩)), (Value.pointer (some ⟨gl, 0, none⟩)), s10, s11, s12, s13, s14, s15, s16, s17, s18, s19, s20, s21, s22, s23, s24, s25, s26, s27, s28, s29, s30, s31, s32, s33, s34, s35, s36, s37, s38, s39, s40, s41, s42, (Value.agg (vC a)), (Value.agg (vC c)), (Value.bool true), (Value.bool true), (Value.agg (vC b)), (Value.agg (vC c)), (Value.bool q), (Value.bool q), (Value.agg (vC u)), (Value.agg (vC c)), (Value.bool q), (Value.bool false), (Value.bool false), (Value.agg (vC c)), (Value.agg (vC a)), (Value.bool true), (Value.bool true), (Value.agg (vC c)), (Value.agg (vC b)), (Value.bool s), (Value.bool s), (Value.agg (vC c)), (Value.agg (vC l)), (Value.bool s), (Value.bool false), (Value.bool false), s69, s70, s71, s72, s73, s74, s75, s76, s77, s78, s79, s80, s81, s82, s83, s84, s85, s86, s87, s88, s89, s90, s91, s92, s93, s94, s95, s96, s97, s98, s99, s100, s101, s102, s103, s104, s105, s106, s107, s108, s109, s110, s111, s112, s113, s114, s115, s116, s117, s118, s119, s120, s121, s122, s123, s124, s125, s126, s127, s128, s129, s130, s131, s132, s133, s134, s135, s136, s137, s138, s139, s140], defers := [] } w) :
    (Code.region 5 (Reg.opsOf Try.f3 5) true).wp Try.prog Q { tmps := #[s0, s1, s2, (Value.pointer (some ⟨ga, 0, none⟩)), (Value.pointer (some ⟨gb, 0, none⟩)), (Value.pointer (some ⟨gc, 0, none⟩)), s6, s7, (Value.pointer (some ⟨gu, 0, none⟩)), (Value.pointer (some ⟨gl, 0, none⟩)), s10, s11, s12, s13, s14, s15, s16, s17, s18, s19, s20, s21, s22, s23, s24, s25, s26, s27, s28, s29, s30, s31, s32, s33, s34, s35, s36, s37, s38, s39, s40, s41, s42, s43, s44, s45, s46, s47, s48, s49, s50, s51, s52, s53, s54, s55, s56, s57, s58, s59, s60, s61, s62, s63, s64, s65, s66, s67, s68, s69, s70, s71, s72, s73, s74, s75, s76, s77, s78, s79, s80, s81, s82, s83, s84, s85, s86, s87, s88, s89, s90, s91, s92, s93, s94, s95, s96, s97, s98, s99, s100, s101, s102, s103, s104, s105, s106, s107, s108, s109, s110, s111, s112, s113, s114, s115, s116, s117, s118, s119, s120, s121, s122, s123, s124, s125, s126, s127, s128, s129, s130, s131, s132, s133, s134, s135, s136, s137, s138, s139, s140], defers := [] } w0 := by
  obtain ⟨a0, ha0⟩ : ∃ a0 : Act, a0 = { tmps := #[s0, s1, s2, (Value.pointer (some ⟨ga, 0, none⟩)), (Value.pointer (some ⟨gb, 0, none⟩)), (Value.pointer (some ⟨gc, 0, none⟩)), s6, s7, (Value.pointer (some ⟨gu, 0, none⟩)), (Value.pointer (some ⟨gl, 0, none⟩)), s10, s11, s12, s13, s14, s15, s16, s17, s18, s19, s20, s21, s22, s23, s24, s25, s26, s27, s28, s29, s30, s31, s32, s33, s34, s35, s36, s37, s38, s39, s40, s41, s42, s43, s44, s45, s46, s47, s48, s49, s50, s51, s52, s53, s54, s55, s56, s57, s58, s59, s60, s61, s62, s63, s64, s65, s66, s67, s68, s69, s70, s71, s72, s73, s74, s75, s76, s77, s78, s79, s80, s81, s82, s83, s84, s85, s86, s87, s88, s89, s90, s91, s92, s93, s94, s95, s96, s97, s98, s99, s100, s101, s102, s103, s104, s105, s106, s107, s108, s109, s110, s111, s112, s113, s114, s115, s116, s117, s118, s119, s120, s121, s122, s123, s124, s125, s126, s127, s128, s129, s130, s131, s132, s133, s134, s135, s136, s137, s138, s139, s140], defers := [] } := ⟨_, rfl⟩
  have hfin : ∀ v : Nat → Value, Reg.gfr (Reg.opsOf Try.f3 5) a0 v (List.range 26) = { tmps := #[s0, s1, s2, (Value.pointer (some ⟨ga, 0, none⟩)), (Value.pointer (some ⟨gb, 0, none⟩)), (Value.pointer (some ⟨gc, 0, none⟩)), s6, s7, (Value.pointer (some ⟨gu, 0, none⟩)), (Value.pointer (some ⟨gl, 0, none⟩)), s10, s11, s12, s13, s14, s15, s16, s17, s18, s19, s20, s21, s22, s23, s24, s25, s26, s27, s28, s29, s30, s31, s32, s33, s34, s35, s36, s37, s38, s39, s40, s41, s42, v 0, v 1, v 2, v 3, v 4, v 5, v 6, v 7, v 8, v 9, v 10, v 11, v 12, v 13, v 14, v 15, v 16, v 17, v 18, v 19, v 20, v 21, v 22, v 23, v 24, v 25, s69, s70, s71, s72, s73, s74, s75, s76, s77, s78, s79, s80, s81, s82, s83, s84, s85, s86, s87, s88, s89, s90, s91, s92, s93, s94, s95, s96, s97, s98, s99, s100, s101, s102, s103, s104, s105, s106, s107, s108, s109, s110, s111, s112, s113, s114, s115, s116, s117, s118, s119, s120, s121, s122, s123, s124, s125, s126, s127, s128, s129, s130, s131, s132, s133, s134, s135, s136, s137, s138, s139, s140], defers := [] } := fun v => by rw [ha0]; kernel_rfl
  rw [← ha0]
  have i3 : a0.eval (.tmp 3) = (Value.pointer (some ⟨ga, 0, none⟩)) := by rw [ha0]; rfl
  have i4 : a0.eval (.tmp 4) = (Value.pointer (some ⟨gb, 0, none⟩)) := by rw [ha0]; rfl
  have i5 : a0.eval (.tmp 5) = (Value.pointer (some ⟨gc, 0, none⟩)) := by rw [ha0]; rfl
  have i8 : a0.eval (.tmp 8) = (Value.pointer (some ⟨gu, 0, none⟩)) := by rw [ha0]; rfl
  have i9 : a0.eval (.tmp 9) = (Value.pointer (some ⟨gl, 0, none⟩)) := by rw [ha0]; rfl
  have hsz : a0.tmps.size = 141 := by rw [ha0]; rfl
  clear ha0
  have hn : (Reg.opsOf Try.f3 5).size = 26 := by kernel_rfl
  have h0 : Reg.OpOK Try.prog (Reg.opsOf Try.f3 5) a0 w0 (lattice5_ttR a b c u l ga gb gc gu gl q s) (fun _ _ _ _ => True) 0 := by
    refine Reg.op_ok2 (fun af => { dst := some 43, op := Op.load 24 (Operand.tmp 3), type := 24, pos := "outright.go:56", after := af, guard := none }) #[] (by kernel_rfl) [] (by kernel_rfl) fun af v W hb hd => ?_
    have e3 := (Reg.gfr_eval0 (ops := (Reg.opsOf Try.f3 5)) (a0 := a0) (v := v) (L := []) 3 (by kernel_rfl)).trans i3
    refine ⟨Reg.wanted_none rfl, ?_⟩
    generalize Reg.gfr (Reg.opsOf Try.f3 5) a0 v [] = G at e3 ⊢
    generalize hρ : G.eval = ρ at e3
    have hρ' : G.eval = ρ := hρ
    exact fun K hK => wp_load_row 24 (.tmp 3) rfl ga (by rw [hρ']; exact e3) 24 (vC a) (0, 0) _ (M_ga W hb) Try.underlying24 rfl (vec_size ha) (hK _ _ ⟨Below.refl _ _, rfl⟩)
  have h1 : Reg.OpOK Try.prog (Reg.opsOf Try.f3 5) a0 w0 (lattice5_ttR a b c u l ga gb gc gu gl q s) (fun _ _ _ _ => True) 1 := by
    refine Reg.op_ok2 (fun af => { dst := some 44, op := Op.load 24 (Operand.tmp 5), type := 24, pos := "outright.go:56", after := af, guard := none }) #[] (by kernel_rfl) [] (by kernel_rfl) fun af v W hb hd => ?_
    have e5 := (Reg.gfr_eval0 (ops := (Reg.opsOf Try.f3 5)) (a0 := a0) (v := v) (L := []) 5 (by kernel_rfl)).trans i5
    refine ⟨Reg.wanted_none rfl, ?_⟩
    generalize Reg.gfr (Reg.opsOf Try.f3 5) a0 v [] = G at e5 ⊢
    generalize hρ : G.eval = ρ at e5
    have hρ' : G.eval = ρ := hρ
    exact fun K hK => wp_load_row 24 (.tmp 5) rfl gc (by rw [hρ']; exact e5) 24 (vC c) (0, 0) _ (M_gc W hb) Try.underlying24 rfl (vec_size hc) (hK _ _ ⟨Below.refl _ _, rfl⟩)
  have h2 : Reg.OpOK Try.prog (Reg.opsOf Try.f3 5) a0 w0 (lattice5_ttR a b c u l ga gb gc gu gl q s) (fun _ _ _ _ => True) 2 := by
    refine Reg.op_ok2 (fun af => { dst := some 45, op := Op.call { callee := Callee.value (Operand.func 13), args := #[Operand.tmp 43, Operand.tmp 44], argTypes := #[24, 24] }, type := 4, pos := "outright.go:56", after := af, guard := none }) #[{ on := 0, ground := Ground.data }, { on := 1, ground := Ground.data }] (by kernel_rfl) [0, 1] (by kernel_rfl) fun af v W hb hd => ?_
    have d0 : v 0 = (Value.agg (vC a)) := hd 0 (by decide)
    have d1 : v 1 = (Value.agg (vC c)) := hd 1 (by decide)
    have e43 := (Reg.gfr_eval (ops := (Reg.opsOf Try.f3 5)) (a0 := a0) (v := v) (L := [0, 1]) 43 0 (by kernel_rfl) (by rw [hsz]; omega)).trans d0
    have e44 := (Reg.gfr_eval (ops := (Reg.opsOf Try.f3 5)) (a0 := a0) (v := v) (L := [0, 1]) 44 1 (by kernel_rfl) (by rw [hsz]; omega)).trans d1
    refine ⟨Reg.wanted_none rfl, ?_⟩
    have eF : ∀ f, (Reg.gfr (Reg.opsOf Try.f3 5) a0 v [0, 1]).eval (.func f) = .func (.func f) #[] #[] := fun _ => rfl
    generalize Reg.gfr (Reg.opsOf Try.f3 5) a0 v [0, 1] = G at e43 e44 eF ⊢
    generalize hρ : G.eval = ρ at e43 e44 eF
    have hρ' : G.eval = ρ := hρ
    refine Reg.go_call 13 #[(Value.agg (vC a)), (Value.agg (vC c))] (by rw [hρ']; simp [execOp, go_sem, e43, e44, eF]) ((atmost_any a c ha hc W).mono fun e w' he => ?_)
    obtain ⟨rfl, hbb⟩ := he
    exact ⟨_, rfl, hbb, (show _ = _ from by rw [f1])⟩
  have h3 : Reg.OpOK Try.prog (Reg.opsOf Try.f3 5) a0 w0 (lattice5_ttR a b c u l ga gb gc gu gl q s) (fun _ _ _ _ => True) 3 := by
    refine Reg.op_ok2 (fun af => { dst := some 46, op := Op.move (Operand.tmp 45), type := 4, pos := "outright.go:56", after := af, guard := none }) #[{ on := 2, ground := Ground.data }, { on := 2, ground := Ground.chain }] (by kernel_rfl) [2, 2] (by kernel_rfl) fun af v W hb hd => ?_
    have d2 : v 2 = (Value.bool true) := hd 2 (by decide)
    have e45 := (Reg.gfr_eval (ops := (Reg.opsOf Try.f3 5)) (a0 := a0) (v := v) (L := [2, 2]) 45 2 (by kernel_rfl) (by rw [hsz]; omega)).trans d2
    refine ⟨Reg.wanted_none rfl, ?_⟩
    generalize Reg.gfr (Reg.opsOf Try.f3 5) a0 v [2, 2] = G at e45 ⊢
    generalize hρ : G.eval = ρ at e45
    have hρ' : G.eval = ρ := hρ
    refine Reg.go_run (Value.bool true) W ?_ ?_
    · rw [hρ']; simp [execOp, go_sem, e45]
    · exact ⟨Below.refl _ _, rfl⟩
  have h4 : Reg.OpOK Try.prog (Reg.opsOf Try.f3 5) a0 w0 (lattice5_ttR a b c u l ga gb gc gu gl q s) (fun _ _ _ _ => True) 4 := by
    refine Reg.op_ok2 (fun af => { dst := some 47, op := Op.load 24 (Operand.tmp 4), type := 24, pos := "outright.go:56", after := af, guard := some (3, true) }) #[{ on := 3, ground := Ground.guard }] (by kernel_rfl) [3] (by kernel_rfl) fun af v W hb hd => ?_
    have d3 : v 3 = (Value.bool true) := hd 3 (by decide)
    have e4 := (Reg.gfr_eval0 (ops := (Reg.opsOf Try.f3 5)) (a0 := a0) (v := v) (L := [3]) 4 (by kernel_rfl)).trans i4
    have e46 := (Reg.gfr_eval (ops := (Reg.opsOf Try.f3 5)) (a0 := a0) (v := v) (L := [3]) 46 3 (by kernel_rfl) (by rw [hsz]; omega)).trans d3
    refine ⟨Reg.wanted_of rfl (by kernel_rfl) e46, ?_⟩
    generalize Reg.gfr (Reg.opsOf Try.f3 5) a0 v [3] = G at e4 ⊢
    generalize hρ : G.eval = ρ at e4
    have hρ' : G.eval = ρ := hρ
    exact fun K hK => wp_load_row 24 (.tmp 4) rfl gb (by rw [hρ']; exact e4) 24 (vC b) (0, 0) _ (M_gb W hb) Try.underlying24 rfl (vec_size hb') (hK _ _ ⟨Below.refl _ _, rfl⟩)
  have h5 : Reg.OpOK Try.prog (Reg.opsOf Try.f3 5) a0 w0 (lattice5_ttR a b c u l ga gb gc gu gl q s) (fun _ _ _ _ => True) 5 := by
    refine Reg.op_ok2 (fun af => { dst := some 48, op := Op.load 24 (Operand.tmp 5), type := 24, pos := "outright.go:56", after := af, guard := some (3, true) }) #[{ on := 3, ground := Ground.guard }] (by kernel_rfl) [3] (by kernel_rfl) fun af v W hb hd => ?_
    have d3 : v 3 = (Value.bool true) := hd 3 (by decide)
    have e5 := (Reg.gfr_eval0 (ops := (Reg.opsOf Try.f3 5)) (a0 := a0) (v := v) (L := [3]) 5 (by kernel_rfl)).trans i5
    have e46 := (Reg.gfr_eval (ops := (Reg.opsOf Try.f3 5)) (a0 := a0) (v := v) (L := [3]) 46 3 (by kernel_rfl) (by rw [hsz]; omega)).trans d3
    refine ⟨Reg.wanted_of rfl (by kernel_rfl) e46, ?_⟩
    generalize Reg.gfr (Reg.opsOf Try.f3 5) a0 v [3] = G at e5 ⊢
    generalize hρ : G.eval = ρ at e5
    have hρ' : G.eval = ρ := hρ
    exact fun K hK => wp_load_row 24 (.tmp 5) rfl gc (by rw [hρ']; exact e5) 24 (vC c) (0, 0) _ (M_gc W hb) Try.underlying24 rfl (vec_size hc) (hK _ _ ⟨Below.refl _ _, rfl⟩)
  have h6 : Reg.OpOK Try.prog (Reg.opsOf Try.f3 5) a0 w0 (lattice5_ttR a b c u l ga gb gc gu gl q s) (fun _ _ _ _ => True) 6 := by
    refine Reg.op_ok2 (fun af => { dst := some 49, op := Op.call { callee := Callee.value (Operand.func 13), args := #[Operand.tmp 47, Operand.tmp 48], argTypes := #[24, 24] }, type := 4, pos := "outright.go:56", after := af, guard := some (3, true) }) #[{ on := 4, ground := Ground.data }, { on := 5, ground := Ground.data }, { on := 3, ground := Ground.chain }, { on := 3, ground := Ground.guard }] (by kernel_rfl) [4, 5, 3, 3] (by kernel_rfl) fun af v W hb hd => ?_
    have d3 : v 3 = (Value.bool true) := hd 3 (by decide)
    have d4 : v 4 = (Value.agg (vC b)) := hd 4 (by decide)
    have d5 : v 5 = (Value.agg (vC c)) := hd 5 (by decide)
    have e47 := (Reg.gfr_eval (ops := (Reg.opsOf Try.f3 5)) (a0 := a0) (v := v) (L := [4, 5, 3, 3]) 47 4 (by kernel_rfl) (by rw [hsz]; omega)).trans d4
    have e48 := (Reg.gfr_eval (ops := (Reg.opsOf Try.f3 5)) (a0 := a0) (v := v) (L := [4, 5, 3, 3]) 48 5 (by kernel_rfl) (by rw [hsz]; omega)).trans d5
    have e46 := (Reg.gfr_eval (ops := (Reg.opsOf Try.f3 5)) (a0 := a0) (v := v) (L := [4, 5, 3, 3]) 46 3 (by kernel_rfl) (by rw [hsz]; omega)).trans d3
    refine ⟨Reg.wanted_of rfl (by kernel_rfl) e46, ?_⟩
    have eF : ∀ f, (Reg.gfr (Reg.opsOf Try.f3 5) a0 v [4, 5, 3, 3]).eval (.func f) = .func (.func f) #[] #[] := fun _ => rfl
    generalize Reg.gfr (Reg.opsOf Try.f3 5) a0 v [4, 5, 3, 3] = G at e47 e48 eF ⊢
    generalize hρ : G.eval = ρ at e47 e48 eF
    have hρ' : G.eval = ρ := hρ
    refine Reg.go_call 13 #[(Value.agg (vC b)), (Value.agg (vC c))] (by rw [hρ']; simp [execOp, go_sem, e47, e48, eF]) ((atmost_any b c hb' hc W).mono fun e w' he => ?_)
    obtain ⟨rfl, hbb⟩ := he
    exact ⟨_, rfl, hbb, (show _ = _ from by rw [f2])⟩
  have h7 : Reg.OpOK Try.prog (Reg.opsOf Try.f3 5) a0 w0 (lattice5_ttR a b c u l ga gb gc gu gl q s) (fun _ _ _ _ => True) 7 := by
    refine Reg.op_ok2 (fun af => { dst := some 50, op := Op.pick (Operand.tmp 46) (Operand.tmp 49) (Operand.const (Value.bool false)), type := 4, pos := "outright.go:56", after := af, guard := none }) #[{ on := 3, ground := Ground.data }, { on := 6, ground := Ground.data }] (by kernel_rfl) [3, 6] (by kernel_rfl) fun af v W hb hd => ?_
    have d3 : v 3 = (Value.bool true) := hd 3 (by decide)
    have d6 : v 6 = (Value.bool q) := hd 6 (by decide)
    have e46 := (Reg.gfr_eval (ops := (Reg.opsOf Try.f3 5)) (a0 := a0) (v := v) (L := [3, 6]) 46 3 (by kernel_rfl) (by rw [hsz]; omega)).trans d3
    have e49 := (Reg.gfr_eval (ops := (Reg.opsOf Try.f3 5)) (a0 := a0) (v := v) (L := [3, 6]) 49 6 (by kernel_rfl) (by rw [hsz]; omega)).trans d6
    refine ⟨Reg.wanted_none rfl, ?_⟩
    have eC : ∀ x, (Reg.gfr (Reg.opsOf Try.f3 5) a0 v [3, 6]).eval (.const x) = x := fun _ => rfl
    generalize Reg.gfr (Reg.opsOf Try.f3 5) a0 v [3, 6] = G at e46 e49 eC ⊢
    generalize hρ : G.eval = ρ at e46 e49 eC
    have hρ' : G.eval = ρ := hρ
    refine Reg.go_run (Value.bool q) W ?_ ?_
    · rw [hρ']; simp [execOp, go_sem, e46, e49, eC]
    · exact ⟨Below.refl _ _, rfl⟩
  have h8 : Reg.OpOK Try.prog (Reg.opsOf Try.f3 5) a0 w0 (lattice5_ttR a b c u l ga gb gc gu gl q s) (fun _ _ _ _ => True) 8 := by
    refine Reg.op_ok2 (fun af => { dst := some 51, op := Op.load 24 (Operand.tmp 8), type := 24, pos := "outright.go:56", after := af, guard := none }) #[] (by kernel_rfl) [] (by kernel_rfl) fun af v W hb hd => ?_
    have e8 := (Reg.gfr_eval0 (ops := (Reg.opsOf Try.f3 5)) (a0 := a0) (v := v) (L := []) 8 (by kernel_rfl)).trans i8
    refine ⟨Reg.wanted_none rfl, ?_⟩
    generalize Reg.gfr (Reg.opsOf Try.f3 5) a0 v [] = G at e8 ⊢
    generalize hρ : G.eval = ρ at e8
    have hρ' : G.eval = ρ := hρ
    exact fun K hK => wp_load_row 24 (.tmp 8) rfl gu (by rw [hρ']; exact e8) 24 (vC u) (0, 0) _ (M_gu W hb) Try.underlying24 rfl (vec_size hu) (hK _ _ ⟨Below.refl _ _, rfl⟩)
  have h9 : Reg.OpOK Try.prog (Reg.opsOf Try.f3 5) a0 w0 (lattice5_ttR a b c u l ga gb gc gu gl q s) (fun _ _ _ _ => True) 9 := by
    refine Reg.op_ok2 (fun af => { dst := some 52, op := Op.load 24 (Operand.tmp 5), type := 24, pos := "outright.go:56", after := af, guard := none }) #[] (by kernel_rfl) [] (by kernel_rfl) fun af v W hb hd => ?_
    have e5 := (Reg.gfr_eval0 (ops := (Reg.opsOf Try.f3 5)) (a0 := a0) (v := v) (L := []) 5 (by kernel_rfl)).trans i5
    refine ⟨Reg.wanted_none rfl, ?_⟩
    generalize Reg.gfr (Reg.opsOf Try.f3 5) a0 v [] = G at e5 ⊢
    generalize hρ : G.eval = ρ at e5
    have hρ' : G.eval = ρ := hρ
    exact fun K hK => wp_load_row 24 (.tmp 5) rfl gc (by rw [hρ']; exact e5) 24 (vC c) (0, 0) _ (M_gc W hb) Try.underlying24 rfl (vec_size hc) (hK _ _ ⟨Below.refl _ _, rfl⟩)
  have h10 : Reg.OpOK Try.prog (Reg.opsOf Try.f3 5) a0 w0 (lattice5_ttR a b c u l ga gb gc gu gl q s) (fun _ _ _ _ => True) 10 := by
    refine Reg.op_ok2 (fun af => { dst := some 53, op := Op.call { callee := Callee.value (Operand.func 13), args := #[Operand.tmp 51, Operand.tmp 52], argTypes := #[24, 24] }, type := 4, pos := "outright.go:56", after := af, guard := none }) #[{ on := 8, ground := Ground.data }, { on := 9, ground := Ground.data }, { on := 6, ground := Ground.chain }] (by kernel_rfl) [8, 9, 6] (by kernel_rfl) fun af v W hb hd => ?_
    have d8 : v 8 = (Value.agg (vC u)) := hd 8 (by decide)
    have d9 : v 9 = (Value.agg (vC c)) := hd 9 (by decide)
    have e51 := (Reg.gfr_eval (ops := (Reg.opsOf Try.f3 5)) (a0 := a0) (v := v) (L := [8, 9, 6]) 51 8 (by kernel_rfl) (by rw [hsz]; omega)).trans d8
    have e52 := (Reg.gfr_eval (ops := (Reg.opsOf Try.f3 5)) (a0 := a0) (v := v) (L := [8, 9, 6]) 52 9 (by kernel_rfl) (by rw [hsz]; omega)).trans d9
    refine ⟨Reg.wanted_none rfl, ?_⟩
    have eF : ∀ f, (Reg.gfr (Reg.opsOf Try.f3 5) a0 v [8, 9, 6]).eval (.func f) = .func (.func f) #[] #[] := fun _ => rfl
    generalize Reg.gfr (Reg.opsOf Try.f3 5) a0 v [8, 9, 6] = G at e51 e52 eF ⊢
    generalize hρ : G.eval = ρ at e51 e52 eF
    have hρ' : G.eval = ρ := hρ
    refine Reg.go_call 13 #[(Value.agg (vC u)), (Value.agg (vC c))] (by rw [hρ']; simp [execOp, go_sem, e51, e52, eF]) ((atmost_any u c hu hc W).mono fun e w' he => ?_)
    obtain ⟨rfl, hbb⟩ := he
    exact ⟨_, rfl, hbb, (show _ = _ from by rw [f3])⟩
  have h11 : Reg.OpOK Try.prog (Reg.opsOf Try.f3 5) a0 w0 (lattice5_ttR a b c u l ga gb gc gu gl q s) (fun _ _ _ _ => True) 11 := by
    refine Reg.op_ok2 (fun af => { dst := some 54, op := Op.binOp BinOp.neq 4 (Operand.tmp 50) (Operand.tmp 53) 4, type := 4, pos := "outright.go:56", after := af, guard := none }) #[{ on := 7, ground := Ground.data }, { on := 10, ground := Ground.data }] (by kernel_rfl) [7, 10] (by kernel_rfl) fun af v W hb hd => ?_
    have d7 : v 7 = (Value.bool q) := hd 7 (by decide)
    have d10 : v 10 = (Value.bool q) := hd 10 (by decide)
    have e50 := (Reg.gfr_eval (ops := (Reg.opsOf Try.f3 5)) (a0 := a0) (v := v) (L := [7, 10]) 50 7 (by kernel_rfl) (by rw [hsz]; omega)).trans d7
    have e53 := (Reg.gfr_eval (ops := (Reg.opsOf Try.f3 5)) (a0 := a0) (v := v) (L := [7, 10]) 53 10 (by kernel_rfl) (by rw [hsz]; omega)).trans d10
    refine ⟨Reg.wanted_none rfl, ?_⟩
    generalize Reg.gfr (Reg.opsOf Try.f3 5) a0 v [7, 10] = G at e50 e53 ⊢
    generalize hρ : G.eval = ρ at e50 e53
    have hρ' : G.eval = ρ := hρ
    refine Reg.go_run (Value.bool false) W ?_ ?_
    · rw [hρ']; simp [execOp, go_sem, e50, e53]
    · exact ⟨Below.refl _ _, rfl⟩
  have h12 : Reg.OpOK Try.prog (Reg.opsOf Try.f3 5) a0 w0 (lattice5_ttR a b c u l ga gb gc gu gl q s) (fun _ _ _ _ => True) 12 := by
    refine Reg.op_ok2 (fun af => { dst := some 55, op := Op.move (Operand.tmp 54), type := 4, pos := "outright.go:56", after := af, guard := none }) #[{ on := 11, ground := Ground.data }, { on := 10, ground := Ground.chain }] (by kernel_rfl) [11, 10] (by kernel_rfl) fun af v W hb hd => ?_
    have d11 : v 11 = (Value.bool false) := hd 11 (by decide)
    have e54 := (Reg.gfr_eval (ops := (Reg.opsOf Try.f3 5)) (a0 := a0) (v := v) (L := [11, 10]) 54 11 (by kernel_rfl) (by rw [hsz]; omega)).trans d11
    refine ⟨Reg.wanted_none rfl, ?_⟩
    generalize Reg.gfr (Reg.opsOf Try.f3 5) a0 v [11, 10] = G at e54 ⊢
    generalize hρ : G.eval = ρ at e54
    have hρ' : G.eval = ρ := hρ
    refine Reg.go_run (Value.bool false) W ?_ ?_
    · rw [hρ']; simp [execOp, go_sem, e54]
    · exact ⟨Below.refl _ _, rfl⟩
  have h13 : Reg.OpOK Try.prog (Reg.opsOf Try.f3 5) a0 w0 (lattice5_ttR a b c u l ga gb gc gu gl q s) (fun _ _ _ _ => True) 13 := by
    refine Reg.op_ok2 (fun af => { dst := some 56, op := Op.load 24 (Operand.tmp 5), type := 24, pos := "outright.go:56", after := af, guard := some (12, false) }) #[{ on := 12, ground := Ground.guard }] (by kernel_rfl) [12] (by kernel_rfl) fun af v W hb hd => ?_
    have d12 : v 12 = (Value.bool false) := hd 12 (by decide)
    have e5 := (Reg.gfr_eval0 (ops := (Reg.opsOf Try.f3 5)) (a0 := a0) (v := v) (L := [12]) 5 (by kernel_rfl)).trans i5
    have e55 := (Reg.gfr_eval (ops := (Reg.opsOf Try.f3 5)) (a0 := a0) (v := v) (L := [12]) 55 12 (by kernel_rfl) (by rw [hsz]; omega)).trans d12
    refine ⟨Reg.wanted_of rfl (by kernel_rfl) e55, ?_⟩
    generalize Reg.gfr (Reg.opsOf Try.f3 5) a0 v [12] = G at e5 ⊢
    generalize hρ : G.eval = ρ at e5
    have hρ' : G.eval = ρ := hρ
    exact fun K hK => wp_load_row 24 (.tmp 5) rfl gc (by rw [hρ']; exact e5) 24 (vC c) (0, 0) _ (M_gc W hb) Try.underlying24 rfl (vec_size hc) (hK _ _ ⟨Below.refl _ _, rfl⟩)
  have h14 : Reg.OpOK Try.prog (Reg.opsOf Try.f3 5) a0 w0 (lattice5_ttR a b c u l ga gb gc gu gl q s) (fun _ _ _ _ => True) 14 := by
    refine Reg.op_ok2 (fun af => { dst := some 57, op := Op.load 24 (Operand.tmp 3), type := 24, pos := "outright.go:56", after := af, guard := some (12, false) }) #[{ on := 12, ground := Ground.guard }] (by kernel_rfl) [12] (by kernel_rfl) fun af v W hb hd => ?_
    have d12 : v 12 = (Value.bool false) := hd 12 (by decide)
    have e3 := (Reg.gfr_eval0 (ops := (Reg.opsOf Try.f3 5)) (a0 := a0) (v := v) (L := [12]) 3 (by kernel_rfl)).trans i3
    have e55 := (Reg.gfr_eval (ops := (Reg.opsOf Try.f3 5)) (a0 := a0) (v := v) (L := [12]) 55 12 (by kernel_rfl) (by rw [hsz]; omega)).trans d12
    refine ⟨Reg.wanted_of rfl (by kernel_rfl) e55, ?_⟩
    generalize Reg.gfr (Reg.opsOf Try.f3 5) a0 v [12] = G at e3 ⊢
    generalize hρ : G.eval = ρ at e3
    have hρ' : G.eval = ρ := hρ
    exact fun K hK => wp_load_row 24 (.tmp 3) rfl ga (by rw [hρ']; exact e3) 24 (vC a) (0, 0) _ (M_ga W hb) Try.underlying24 rfl (vec_size ha) (hK _ _ ⟨Below.refl _ _, rfl⟩)
  have h15 : Reg.OpOK Try.prog (Reg.opsOf Try.f3 5) a0 w0 (lattice5_ttR a b c u l ga gb gc gu gl q s) (fun _ _ _ _ => True) 15 := by
    refine Reg.op_ok2 (fun af => { dst := some 58, op := Op.call { callee := Callee.value (Operand.func 13), args := #[Operand.tmp 56, Operand.tmp 57], argTypes := #[24, 24] }, type := 4, pos := "outright.go:56", after := af, guard := some (12, false) }) #[{ on := 13, ground := Ground.data }, { on := 14, ground := Ground.data }, { on := 12, ground := Ground.chain }, { on := 12, ground := Ground.guard }] (by kernel_rfl) [13, 14, 12, 12] (by kernel_rfl) fun af v W hb hd => ?_
    have d12 : v 12 = (Value.bool false) := hd 12 (by decide)
    have d13 : v 13 = (Value.agg (vC c)) := hd 13 (by decide)
    have d14 : v 14 = (Value.agg (vC a)) := hd 14 (by decide)
    have e56 := (Reg.gfr_eval (ops := (Reg.opsOf Try.f3 5)) (a0 := a0) (v := v) (L := [13, 14, 12, 12]) 56 13 (by kernel_rfl) (by rw [hsz]; omega)).trans d13
    have e57 := (Reg.gfr_eval (ops := (Reg.opsOf Try.f3 5)) (a0 := a0) (v := v) (L := [13, 14, 12, 12]) 57 14 (by kernel_rfl) (by rw [hsz]; omega)).trans d14
    have e55 := (Reg.gfr_eval (ops := (Reg.opsOf Try.f3 5)) (a0 := a0) (v := v) (L := [13, 14, 12, 12]) 55 12 (by kernel_rfl) (by rw [hsz]; omega)).trans d12
    refine ⟨Reg.wanted_of rfl (by kernel_rfl) e55, ?_⟩
    have eF : ∀ f, (Reg.gfr (Reg.opsOf Try.f3 5) a0 v [13, 14, 12, 12]).eval (.func f) = .func (.func f) #[] #[] := fun _ => rfl
    generalize Reg.gfr (Reg.opsOf Try.f3 5) a0 v [13, 14, 12, 12] = G at e56 e57 eF ⊢
    generalize hρ : G.eval = ρ at e56 e57 eF
    have hρ' : G.eval = ρ := hρ
    refine Reg.go_call 13 #[(Value.agg (vC c)), (Value.agg (vC a))] (by rw [hρ']; simp [execOp, go_sem, e56, e57, eF]) ((atmost_any c a hc ha W).mono fun e w' he => ?_)
    obtain ⟨rfl, hbb⟩ := he
    exact ⟨_, rfl, hbb, (show _ = _ from by rw [f4])⟩
  have h16 : Reg.OpOK Try.prog (Reg.opsOf Try.f3 5) a0 w0 (lattice5_ttR a b c u l ga gb gc gu gl q s) (fun _ _ _ _ => True) 16 := by
    refine Reg.op_ok2 (fun af => { dst := some 59, op := Op.move (Operand.tmp 58), type := 4, pos := "outright.go:56", after := af, guard := some (12, false) }) #[{ on := 15, ground := Ground.data }, { on := 15, ground := Ground.chain }, { on := 12, ground := Ground.guard }] (by kernel_rfl) [15, 15, 12] (by kernel_rfl) fun af v W hb hd => ?_
    have d12 : v 12 = (Value.bool false) := hd 12 (by decide)
    have d15 : v 15 = (Value.bool true) := hd 15 (by decide)
    have e58 := (Reg.gfr_eval (ops := (Reg.opsOf Try.f3 5)) (a0 := a0) (v := v) (L := [15, 15, 12]) 58 15 (by kernel_rfl) (by rw [hsz]; omega)).trans d15
    have e55 := (Reg.gfr_eval (ops := (Reg.opsOf Try.f3 5)) (a0 := a0) (v := v) (L := [15, 15, 12]) 55 12 (by kernel_rfl) (by rw [hsz]; omega)).trans d12
    refine ⟨Reg.wanted_of rfl (by kernel_rfl) e55, ?_⟩
    generalize Reg.gfr (Reg.opsOf Try.f3 5) a0 v [15, 15, 12] = G at e58 ⊢
    generalize hρ : G.eval = ρ at e58
    have hρ' : G.eval = ρ := hρ
    refine Reg.go_run (Value.bool true) W ?_ ?_
    · rw [hρ']; simp [execOp, go_sem, e58]
    · exact ⟨Below.refl _ _, rfl⟩
  have h17 : Reg.OpOK Try.prog (Reg.opsOf Try.f3 5) a0 w0 (lattice5_ttR a b c u l ga gb gc gu gl q s) (fun _ _ _ _ => True) 17 := by
    refine Reg.op_ok2 (fun af => { dst := some 60, op := Op.load 24 (Operand.tmp 5), type := 24, pos := "outright.go:56", after := af, guard := some (16, true) }) #[{ on := 16, ground := Ground.guard }] (by kernel_rfl) [16] (by kernel_rfl) fun af v W hb hd => ?_
    have d16 : v 16 = (Value.bool true) := hd 16 (by decide)
    have e5 := (Reg.gfr_eval0 (ops := (Reg.opsOf Try.f3 5)) (a0 := a0) (v := v) (L := [16]) 5 (by kernel_rfl)).trans i5
    have e59 := (Reg.gfr_eval (ops := (Reg.opsOf Try.f3 5)) (a0 := a0) (v := v) (L := [16]) 59 16 (by kernel_rfl) (by rw [hsz]; omega)).trans d16
    refine ⟨Reg.wanted_of rfl (by kernel_rfl) e59, ?_⟩
    generalize Reg.gfr (Reg.opsOf Try.f3 5) a0 v [16] = G at e5 ⊢
    generalize hρ : G.eval = ρ at e5
    have hρ' : G.eval = ρ := hρ
    exact fun K hK => wp_load_row 24 (.tmp 5) rfl gc (by rw [hρ']; exact e5) 24 (vC c) (0, 0) _ (M_gc W hb) Try.underlying24 rfl (vec_size hc) (hK _ _ ⟨Below.refl _ _, rfl⟩)
  have h18 : Reg.OpOK Try.prog (Reg.opsOf Try.f3 5) a0 w0 (lattice5_ttR a b c u l ga gb gc gu gl q s) (fun _ _ _ _ => True) 18 := by
    refine Reg.op_ok2 (fun af => { dst := some 61, op := Op.load 24 (Operand.tmp 4), type := 24, pos := "outright.go:56", after := af, guard := some (16, true) }) #[{ on := 16, ground := Ground.guard }] (by kernel_rfl) [16] (by kernel_rfl) fun af v W hb hd => ?_
    have d16 : v 16 = (Value.bool true) := hd 16 (by decide)
    have e4 := (Reg.gfr_eval0 (ops := (Reg.opsOf Try.f3 5)) (a0 := a0) (v := v) (L := [16]) 4 (by kernel_rfl)).trans i4
    have e59 := (Reg.gfr_eval (ops := (Reg.opsOf Try.f3 5)) (a0 := a0) (v := v) (L := [16]) 59 16 (by kernel_rfl) (by rw [hsz]; omega)).trans d16
    refine ⟨Reg.wanted_of rfl (by kernel_rfl) e59, ?_⟩
    generalize Reg.gfr (Reg.opsOf Try.f3 5) a0 v [16] = G at e4 ⊢
    generalize hρ : G.eval = ρ at e4
    have hρ' : G.eval = ρ := hρ
    exact fun K hK => wp_load_row 24 (.tmp 4) rfl gb (by rw [hρ']; exact e4) 24 (vC b) (0, 0) _ (M_gb W hb) Try.underlying24 rfl (vec_size hb') (hK _ _ ⟨Below.refl _ _, rfl⟩)
  have h19 : Reg.OpOK Try.prog (Reg.opsOf Try.f3 5) a0 w0 (lattice5_ttR a b c u l ga gb gc gu gl q s) (fun _ _ _ _ => True) 19 := by
    refine Reg.op_ok2 (fun af => { dst := some 62, op := Op.call { callee := Callee.value (Operand.func 13), args := #[Operand.tmp 60, Operand.tmp 61], argTypes := #[24, 24] }, type := 4, pos := "outright.go:56", after := af, guard := some (16, true) }) #[{ on := 17, ground := Ground.data }, { on := 18, ground := Ground.data }, { on := 16, ground := Ground.chain }, { on := 16, ground := Ground.guard }] (by kernel_rfl) [17, 18, 16, 16] (by kernel_rfl) fun af v W hb hd => ?_
    have d16 : v 16 = (Value.bool true) := hd 16 (by decide)
    have d17 : v 17 = (Value.agg (vC c)) := hd 17 (by decide)
    have d18 : v 18 = (Value.agg (vC b)) := hd 18 (by decide)
    have e60 := (Reg.gfr_eval (ops := (Reg.opsOf Try.f3 5)) (a0 := a0) (v := v) (L := [17, 18, 16, 16]) 60 17 (by kernel_rfl) (by rw [hsz]; omega)).trans d17
    have e61 := (Reg.gfr_eval (ops := (Reg.opsOf Try.f3 5)) (a0 := a0) (v := v) (L := [17, 18, 16, 16]) 61 18 (by kernel_rfl) (by rw [hsz]; omega)).trans d18
    have e59 := (Reg.gfr_eval (ops := (Reg.opsOf Try.f3 5)) (a0 := a0) (v := v) (L := [17, 18, 16, 16]) 59 16 (by kernel_rfl) (by rw [hsz]; omega)).trans d16
    refine ⟨Reg.wanted_of rfl (by kernel_rfl) e59, ?_⟩
    have eF : ∀ f, (Reg.gfr (Reg.opsOf Try.f3 5) a0 v [17, 18, 16, 16]).eval (.func f) = .func (.func f) #[] #[] := fun _ => rfl
    generalize Reg.gfr (Reg.opsOf Try.f3 5) a0 v [17, 18, 16, 16] = G at e60 e61 eF ⊢
    generalize hρ : G.eval = ρ at e60 e61 eF
    have hρ' : G.eval = ρ := hρ
    refine Reg.go_call 13 #[(Value.agg (vC c)), (Value.agg (vC b))] (by rw [hρ']; simp [execOp, go_sem, e60, e61, eF]) ((atmost_any c b hc hb' W).mono fun e w' he => ?_)
    obtain ⟨rfl, hbb⟩ := he
    exact ⟨_, rfl, hbb, (show _ = _ from by rw [f5])⟩
  have h20 : Reg.OpOK Try.prog (Reg.opsOf Try.f3 5) a0 w0 (lattice5_ttR a b c u l ga gb gc gu gl q s) (fun _ _ _ _ => True) 20 := by
    refine Reg.op_ok2 (fun af => { dst := some 63, op := Op.pick (Operand.tmp 59) (Operand.tmp 62) (Operand.const (Value.bool false)), type := 4, pos := "outright.go:56", after := af, guard := some (12, false) }) #[{ on := 16, ground := Ground.data }, { on := 19, ground := Ground.data }, { on := 12, ground := Ground.guard }] (by kernel_rfl) [16, 19, 12] (by kernel_rfl) fun af v W hb hd => ?_
    have d12 : v 12 = (Value.bool false) := hd 12 (by decide)
    have d16 : v 16 = (Value.bool true) := hd 16 (by decide)
    have d19 : v 19 = (Value.bool s) := hd 19 (by decide)
    have e59 := (Reg.gfr_eval (ops := (Reg.opsOf Try.f3 5)) (a0 := a0) (v := v) (L := [16, 19, 12]) 59 16 (by kernel_rfl) (by rw [hsz]; omega)).trans d16
    have e62 := (Reg.gfr_eval (ops := (Reg.opsOf Try.f3 5)) (a0 := a0) (v := v) (L := [16, 19, 12]) 62 19 (by kernel_rfl) (by rw [hsz]; omega)).trans d19
    have e55 := (Reg.gfr_eval (ops := (Reg.opsOf Try.f3 5)) (a0 := a0) (v := v) (L := [16, 19, 12]) 55 12 (by kernel_rfl) (by rw [hsz]; omega)).trans d12
    refine ⟨Reg.wanted_of rfl (by kernel_rfl) e55, ?_⟩
    have eC : ∀ x, (Reg.gfr (Reg.opsOf Try.f3 5) a0 v [16, 19, 12]).eval (.const x) = x := fun _ => rfl
    generalize Reg.gfr (Reg.opsOf Try.f3 5) a0 v [16, 19, 12] = G at e59 e62 eC ⊢
    generalize hρ : G.eval = ρ at e59 e62 eC
    have hρ' : G.eval = ρ := hρ
    refine Reg.go_run (Value.bool s) W ?_ ?_
    · rw [hρ']; simp [execOp, go_sem, e59, e62, eC]
    · exact ⟨Below.refl _ _, rfl⟩
  have h21 : Reg.OpOK Try.prog (Reg.opsOf Try.f3 5) a0 w0 (lattice5_ttR a b c u l ga gb gc gu gl q s) (fun _ _ _ _ => True) 21 := by
    refine Reg.op_ok2 (fun af => { dst := some 64, op := Op.load 24 (Operand.tmp 5), type := 24, pos := "outright.go:56", after := af, guard := some (12, false) }) #[{ on := 12, ground := Ground.guard }] (by kernel_rfl) [12] (by kernel_rfl) fun af v W hb hd => ?_
    have d12 : v 12 = (Value.bool false) := hd 12 (by decide)
    have e5 := (Reg.gfr_eval0 (ops := (Reg.opsOf Try.f3 5)) (a0 := a0) (v := v) (L := [12]) 5 (by kernel_rfl)).trans i5
    have e55 := (Reg.gfr_eval (ops := (Reg.opsOf Try.f3 5)) (a0 := a0) (v := v) (L := [12]) 55 12 (by kernel_rfl) (by rw [hsz]; omega)).trans d12
    refine ⟨Reg.wanted_of rfl (by kernel_rfl) e55, ?_⟩
    generalize Reg.gfr (Reg.opsOf Try.f3 5) a0 v [12] = G at e5 ⊢
    generalize hρ : G.eval = ρ at e5
    have hρ' : G.eval = ρ := hρ
    exact fun K hK => wp_load_row 24 (.tmp 5) rfl gc (by rw [hρ']; exact e5) 24 (vC c) (0, 0) _ (M_gc W hb) Try.underlying24 rfl (vec_size hc) (hK _ _ ⟨Below.refl _ _, rfl⟩)
  have h22 : Reg.OpOK Try.prog (Reg.opsOf Try.f3 5) a0 w0 (lattice5_ttR a b c u l ga gb gc gu gl q s) (fun _ _ _ _ => True) 22 := by
    refine Reg.op_ok2 (fun af => { dst := some 65, op := Op.load 24 (Operand.tmp 9), type := 24, pos := "outright.go:56", after := af, guard := some (12, false) }) #[{ on := 12, ground := Ground.guard }] (by kernel_rfl) [12] (by kernel_rfl) fun af v W hb hd => ?_
    have d12 : v 12 = (Value.bool false) := hd 12 (by decide)
    have e9 := (Reg.gfr_eval0 (ops := (Reg.opsOf Try.f3 5)) (a0 := a0) (v := v) (L := [12]) 9 (by kernel_rfl)).trans i9
    have e55 := (Reg.gfr_eval (ops := (Reg.opsOf Try.f3 5)) (a0 := a0) (v := v) (L := [12]) 55 12 (by kernel_rfl) (by rw [hsz]; omega)).trans d12
    refine ⟨Reg.wanted_of rfl (by kernel_rfl) e55, ?_⟩
    generalize Reg.gfr (Reg.opsOf Try.f3 5) a0 v [12] = G at e9 ⊢
    generalize hρ : G.eval = ρ at e9
    have hρ' : G.eval = ρ := hρ
    exact fun K hK => wp_load_row 24 (.tmp 9) rfl gl (by rw [hρ']; exact e9) 24 (vC l) (0, 0) _ (M_gl W hb) Try.underlying24 rfl (vec_size hl) (hK _ _ ⟨Below.refl _ _, rfl⟩)
  have h23 : Reg.OpOK Try.prog (Reg.opsOf Try.f3 5) a0 w0 (lattice5_ttR a b c u l ga gb gc gu gl q s) (fun _ _ _ _ => True) 23 := by
    refine Reg.op_ok2 (fun af => { dst := some 66, op := Op.call { callee := Callee.value (Operand.func 13), args := #[Operand.tmp 64, Operand.tmp 65], argTypes := #[24, 24] }, type := 4, pos := "outright.go:56", after := af, guard := some (12, false) }) #[{ on := 21, ground := Ground.data }, { on := 22, ground := Ground.data }, { on := 19, ground := Ground.chain }, { on := 12, ground := Ground.guard }] (by kernel_rfl) [21, 22, 19, 12] (by kernel_rfl) fun af v W hb hd => ?_
    have d12 : v 12 = (Value.bool false) := hd 12 (by decide)
    have d21 : v 21 = (Value.agg (vC c)) := hd 21 (by decide)
    have d22 : v 22 = (Value.agg (vC l)) := hd 22 (by decide)
    have e64 := (Reg.gfr_eval (ops := (Reg.opsOf Try.f3 5)) (a0 := a0) (v := v) (L := [21, 22, 19, 12]) 64 21 (by kernel_rfl) (by rw [hsz]; omega)).trans d21
    have e65 := (Reg.gfr_eval (ops := (Reg.opsOf Try.f3 5)) (a0 := a0) (v := v) (L := [21, 22, 19, 12]) 65 22 (by kernel_rfl) (by rw [hsz]; omega)).trans d22
    have e55 := (Reg.gfr_eval (ops := (Reg.opsOf Try.f3 5)) (a0 := a0) (v := v) (L := [21, 22, 19, 12]) 55 12 (by kernel_rfl) (by rw [hsz]; omega)).trans d12
    refine ⟨Reg.wanted_of rfl (by kernel_rfl) e55, ?_⟩
    have eF : ∀ f, (Reg.gfr (Reg.opsOf Try.f3 5) a0 v [21, 22, 19, 12]).eval (.func f) = .func (.func f) #[] #[] := fun _ => rfl
    generalize Reg.gfr (Reg.opsOf Try.f3 5) a0 v [21, 22, 19, 12] = G at e64 e65 eF ⊢
    generalize hρ : G.eval = ρ at e64 e65 eF
    have hρ' : G.eval = ρ := hρ
    refine Reg.go_call 13 #[(Value.agg (vC c)), (Value.agg (vC l))] (by rw [hρ']; simp [execOp, go_sem, e64, e65, eF]) ((atmost_any c l hc hl W).mono fun e w' he => ?_)
    obtain ⟨rfl, hbb⟩ := he
    exact ⟨_, rfl, hbb, (show _ = _ from by rw [f6])⟩
  have h24 : Reg.OpOK Try.prog (Reg.opsOf Try.f3 5) a0 w0 (lattice5_ttR a b c u l ga gb gc gu gl q s) (fun _ _ _ _ => True) 24 := by
    refine Reg.op_ok2 (fun af => { dst := some 67, op := Op.binOp BinOp.neq 4 (Operand.tmp 63) (Operand.tmp 66) 4, type := 4, pos := "outright.go:56", after := af, guard := some (12, false) }) #[{ on := 20, ground := Ground.data }, { on := 23, ground := Ground.data }, { on := 12, ground := Ground.guard }] (by kernel_rfl) [20, 23, 12] (by kernel_rfl) fun af v W hb hd => ?_
    have d12 : v 12 = (Value.bool false) := hd 12 (by decide)
    have d20 : v 20 = (Value.bool s) := hd 20 (by decide)
    have d23 : v 23 = (Value.bool s) := hd 23 (by decide)
    have e63 := (Reg.gfr_eval (ops := (Reg.opsOf Try.f3 5)) (a0 := a0) (v := v) (L := [20, 23, 12]) 63 20 (by kernel_rfl) (by rw [hsz]; omega)).trans d20
    have e66 := (Reg.gfr_eval (ops := (Reg.opsOf Try.f3 5)) (a0 := a0) (v := v) (L := [20, 23, 12]) 66 23 (by kernel_rfl) (by rw [hsz]; omega)).trans d23
    have e55 := (Reg.gfr_eval (ops := (Reg.opsOf Try.f3 5)) (a0 := a0) (v := v) (L := [20, 23, 12]) 55 12 (by kernel_rfl) (by rw [hsz]; omega)).trans d12
    refine ⟨Reg.wanted_of rfl (by kernel_rfl) e55, ?_⟩
    generalize Reg.gfr (Reg.opsOf Try.f3 5) a0 v [20, 23, 12] = G at e63 e66 ⊢
    generalize hρ : G.eval = ρ at e63 e66
    have hρ' : G.eval = ρ := hρ
    refine Reg.go_run (Value.bool false) W ?_ ?_
    · rw [hρ']; simp [execOp, go_sem, e63, e66]
    · exact ⟨Below.refl _ _, rfl⟩
  have h25 : Reg.OpOK Try.prog (Reg.opsOf Try.f3 5) a0 w0 (lattice5_ttR a b c u l ga gb gc gu gl q s) (fun _ _ _ _ => True) 25 := by
    refine Reg.op_ok2 (fun af => { dst := some 68, op := Op.pick (Operand.tmp 55) (Operand.const (Value.bool true)) (Operand.tmp 67), type := 4, pos := "outright.go:56", after := af, guard := none }) #[{ on := 12, ground := Ground.data }, { on := 24, ground := Ground.data }] (by kernel_rfl) [12, 24] (by kernel_rfl) fun af v W hb hd => ?_
    have d12 : v 12 = (Value.bool false) := hd 12 (by decide)
    have d24 : v 24 = (Value.bool false) := hd 24 (by decide)
    have e55 := (Reg.gfr_eval (ops := (Reg.opsOf Try.f3 5)) (a0 := a0) (v := v) (L := [12, 24]) 55 12 (by kernel_rfl) (by rw [hsz]; omega)).trans d12
    have e67 := (Reg.gfr_eval (ops := (Reg.opsOf Try.f3 5)) (a0 := a0) (v := v) (L := [12, 24]) 67 24 (by kernel_rfl) (by rw [hsz]; omega)).trans d24
    refine ⟨Reg.wanted_none rfl, ?_⟩
    have eC : ∀ x, (Reg.gfr (Reg.opsOf Try.f3 5) a0 v [12, 24]).eval (.const x) = x := fun _ => rfl
    generalize Reg.gfr (Reg.opsOf Try.f3 5) a0 v [12, 24] = G at e55 e67 eC ⊢
    generalize hρ : G.eval = ρ at e55 e67 eC
    have hρ' : G.eval = ρ := hρ
    refine Reg.go_run (Value.bool false) W ?_ ?_
    · rw [hρ']; simp [execOp, go_sem, e55, e67, eC]
    · exact ⟨Below.refl _ _, rfl⟩
  refine Reg.region_all (by kernel_rfl) (lattice5_ttR a b c u l ga gb gc gu gl q s) (by rw [hn, hsz]; kernel_rfl) (lattice5_tt_stable a b c u l ga gb gc gu gl q s) (fun i hi => ?_) (fun v w hb hR => ?_)
  · rw [hn] at hi
    match i, List.mem_range.1 hi with
    | 0, _ => exact h0
    | 1, _ => exact h1
    | 2, _ => exact h2
    | 3, _ => exact h3
    | 4, _ => exact h4
    | 5, _ => exact h5
    | 6, _ => exact h6
    | 7, _ => exact h7
    | 8, _ => exact h8
    | 9, _ => exact h9
    | 10, _ => exact h10
    | 11, _ => exact h11
    | 12, _ => exact h12
    | 13, _ => exact h13
    | 14, _ => exact h14
    | 15, _ => exact h15
    | 16, _ => exact h16
    | 17, _ => exact h17
    | 18, _ => exact h18
    | 19, _ => exact h19
    | 20, _ => exact h20
    | 21, _ => exact h21
    | 22, _ => exact h22
    | 23, _ => exact h23
    | 24, _ => exact h24
    | 25, _ => exact h25
    | (_ + 26), h => omega
  · rw [hn] at hR ⊢
    have v0 : v 0 = (Value.agg (vC a)) := hR 0 (by decide)
    have v1 : v 1 = (Value.agg (vC c)) := hR 1 (by decide)
    have v2 : v 2 = (Value.bool true) := hR 2 (by decide)
    have v3 : v 3 = (Value.bool true) := hR 3 (by decide)
    have v4 : v 4 = (Value.agg (vC b)) := hR 4 (by decide)
    have v5 : v 5 = (Value.agg (vC c)) := hR 5 (by decide)
    have v6 : v 6 = (Value.bool q) := hR 6 (by decide)
    have v7 : v 7 = (Value.bool q) := hR 7 (by decide)
    have v8 : v 8 = (Value.agg (vC u)) := hR 8 (by decide)
    have v9 : v 9 = (Value.agg (vC c)) := hR 9 (by decide)
    have v10 : v 10 = (Value.bool q) := hR 10 (by decide)
    have v11 : v 11 = (Value.bool false) := hR 11 (by decide)
    have v12 : v 12 = (Value.bool false) := hR 12 (by decide)
    have v13 : v 13 = (Value.agg (vC c)) := hR 13 (by decide)
    have v14 : v 14 = (Value.agg (vC a)) := hR 14 (by decide)
    have v15 : v 15 = (Value.bool true) := hR 15 (by decide)
    have v16 : v 16 = (Value.bool true) := hR 16 (by decide)
    have v17 : v 17 = (Value.agg (vC c)) := hR 17 (by decide)
    have v18 : v 18 = (Value.agg (vC b)) := hR 18 (by decide)
    have v19 : v 19 = (Value.bool s) := hR 19 (by decide)
    have v20 : v 20 = (Value.bool s) := hR 20 (by decide)
    have v21 : v 21 = (Value.agg (vC c)) := hR 21 (by decide)
    have v22 : v 22 = (Value.agg (vC l)) := hR 22 (by decide)
    have v23 : v 23 = (Value.bool s) := hR 23 (by decide)
    have v24 : v 24 = (Value.bool false) := hR 24 (by decide)
    have v25 : v 25 = (Value.bool false) := hR 25 (by decide)
    rw [hfin v, v0, v1, v2, v3, v4, v5, v6, v7, v8, v9, v10, v11, v12, v13, v14, v15, v16, v17, v18, v19, v20, v21, v22, v23, v24, v25]
    exact hend w  hb 
def lattice5_tfR (a b c u l : List Nat) (ga gb gc gu gl : Nat) (q s : Bool) : Nat → Value → World → Prop
  | 0 => fun x_ _ => x_ = (Value.agg (vC a))
  | 1 => fun x_ _ => x_ = (Value.agg (vC c))
  | 2 => fun x_ _ => x_ = (Value.bool true)
  | 3 => fun x_ _ => x_ = (Value.bool true)
  | 4 => fun x_ _ => x_ = (Value.agg (vC b))
  | 5 => fun x_ _ => x_ = (Value.agg (vC c))
  | 6 => fun x_ _ => x_ = (Value.bool q)
  | 7 => fun x_ _ => x_ = (Value.bool q)
  | 8 => fun x_ _ => x_ = (Value.agg (vC u))
  | 9 => fun x_ _ => x_ = (Value.agg (vC c))
  | 10 => fun x_ _ => x_ = (Value.bool q)
  | 11 => fun x_ _ => x_ = (Value.bool false)
  | 12 => fun x_ _ => x_ = (Value.bool false)
  | 13 => fun x_ _ => x_ = (Value.agg (vC c))
  | 14 => fun x_ _ => x_ = (Value.agg (vC a))
  | 15 => fun x_ _ => x_ = (Value.bool false)
  | 16 => fun x_ _ => x_ = (Value.bool false)
  | 17 => fun x_ _ => x_ = undef
  | 18 => fun x_ _ => x_ = undef
  | 19 => fun x_ _ => x_ = undef
  | 20 => fun x_ _ => x_ = (Value.bool false)
  | 21 => fun x_ _ => x_ = (Value.agg (vC c))
  | 22 => fun x_ _ => x_ = (Value.agg (vC l))
  | 23 => fun x_ _ => x_ = (Value.bool false)
  | 24 => fun x_ _ => x_ = (Value.bool false)
  | 25 => fun x_ _ => x_ = (Value.bool false)
  | _ => fun _ _ => True
theorem lattice5_tf_stable (a b c u l : List Nat) (ga gb gc gu gl : Nat) (q s : Bool) : ∀ i_ u_ w_ w_', (lattice5_tfR a b c u l ga gb gc gu gl q s) i_ u_ w_ → Below w_.heap.size w_ w_' → (lattice5_tfR a b c u l ga gb gc gu gl q s) i_ u_ w_' := fun i_ u_ w_ w_' h_ hb_ => by
  match i_, h_ with
  | 0, h_ => exact h_
  | 1, h_ => exact h_
  | 2, h_ => exact h_
  | 3, h_ => exact h_
  | 4, h_ => exact h_
  | 5, h_ => exact h_
  | 6, h_ => exact h_
  | 7, h_ => exact h_
  | 8, h_ => exact h_
  | 9, h_ => exact h_
  | 10, h_ => exact h_
  | 11, h_ => exact h_
  | 12, h_ => exact h_
  | 13, h_ => exact h_
  | 14, h_ => exact h_
  | 15, h_ => exact h_
  | 16, h_ => exact h_
  | 17, h_ => exact h_
  | 18, h_ => exact h_
  | 19, h_ => exact h_
  | 20, h_ => exact h_
  | 21, h_ => exact h_
  | 22, h_ => exact h_
  | 23, h_ => exact h_
  | 24, h_ => exact h_
  | 25, h_ => exact h_
  | (_ + 26), _ => trivial
set_option maxHeartbeats 4000000 in
set_option maxRecDepth 20000 in
theorem lattice5_tf (a b c u l : List Nat) (ga gb gc gu gl : Nat) (q s : Bool) (w0 : World) {s0 s1 s2 s6 s7 s10 s11 s12 s13 s14 s15 s16 s17 s18 s19 s20 s21 s22 s23 s24 s25 s26 s27 s28 s29 s30 s31 s32 s33 s34 s35 s36 s37 s38 s39 s40 s41 s42 s43 s44 s45 s46 s47 s48 s49 s50 s51 s52 s53 s54 s55 s56 s57 s58 s59 s60 s61 s62 s63 s64 s65 s66 s67 s68 s69 s70 s71 s72 s73 s74 s75 s76 s77 s78 s79 s80 s81 s82 s83 s84 s85 s86 s87 s88 s89 s90 s91 s92 s93 s94 s95 s96 s97 s98 s99 s100 s101 s102 s103 s104 s105 s106 s107 s108 s109 s110 s111 s112 s113 s114 s115 s116 s117 s118 s119 s120 s121 s122 s123 s124 s125 s126 s127 s128 s129 s130 s131 s132 s133 s134 s135 s136 s137 s138 s139 s140 : Value}
    (ha : a.length = 16) (hb' : b.length = 16) (hc : c.length = 16) (hu : u.length = 16) (hl : l.length = 16)
    (f1 : decide (maxV a c = c) = true) (f2 : decide (maxV b c = c) = q) (f3 : decide (maxV u c = c) = q) (f4 : decide (maxV c a = a) = false) (f5 : decide (maxV c b = b) = s) (f6 : decide (maxV c l = l) = false)
    (M_ga : ∀ W, Below w0.heap.size w0 W → W.heap[ga]? = some (.cells (vC a) 24 (0, 0)))
    (M_gb : ∀ W, Below w0.heap.size w0 W → W.heap[gb]? = some (.cells (vC b) 24 (0, 0)))
    (M_gc : ∀ W, Below w0.heap.size w0 W → W.heap[gc]? = some (.cells (vC c) 24 (0, 0)))
    (M_gu : ∀ W, Below w0.heap.size w0 W → W.heap[gu]? = some (.cells (vC u) 24 (0, 0)))
    (M_gl : ∀ W, Below w0.heap.size w0 W → W.heap[gl]? = some (.cells (vC l) 24 (0, 0)))
    {Q : Exit → Act → World → Prop}
    (hend : ∀ (w : World), Below w0.heap.size w0 w → Q .normal { tmps := #[s0, s1, s2, (Value.pointer (some ⟨ga, 0, none⟩)), (Value.pointer (some ⟨gb, 0, none⟩)), (Value.pointer (some ⟨gc, 0, none⟩)), s6, s7, (Value.pointer (some ⟨gu, 0, none⟩)), (Value.pointer (some ⟨gl, 0, none⟩)), s10, s11, s12, s13, s14, s15, s16, s17, s18, s19, s20, s21, s22, s23, s24, s25, s26, s27, s28, s29, s30, s31, s32, s33, s34, s35, s36, s37, s38, s39, s40, s41, s42, (Value.agg (vC a)), (Value.agg (vC c)), (Value.bool true), (Value.bool true), (Value.agg (vC b)), (Value.agg (vC c)), (Value.bool q), (Value.bool q), (Value.agg (vC u)), (Value.agg (vC c)), (Value.bool q), (Value.bool false), (Value.bool false), (Value.agg (vC c)), (Value.agg (vC a)), (Value.bool false), (Value.bool false), undef, undef, undef, (Value.bool false), (Value.agg (vC c)), (Value.agg (vC l)), (Value.bool false), (Value.bool false), (Value.bool false), s69, s70, s71, s72, s73, s74, s75, s76, s77, s78, s79, s80, s81, s82, s83, s84, s85, s86, s87, s88, s89, s90, s91, s92, s93, s94, s95, s96, s97, s98, s99, s100, s101, s102, s103, s104, s105, s106, s107, s108, s109, s110, s111, s112, s113, s114, s115, s116, s117, s118, s119, s120, s121, s122, s123, s124, s125, s126, s127, s128, s129, s130, s131, s132, s133, s134, s135, s136, s137, s138, s139, s140], defers := [] } w) :
    (Code.region 5 (Reg.opsOf Try.f3 5) true).wp Try.prog Q { tmps := #[s0, s1, s2, (Value.pointer (some ⟨ga, 0, none⟩)), (Value.pointer (some ⟨gb, 0, none⟩)), (Value.pointer (some ⟨gc, 0, none⟩)), s6, s7, (Value.pointer (some ⟨gu, 0, none⟩)), (Value.pointer (some ⟨gl, 0, none⟩)), s10, s11, s12, s13, s14, s15, s16, s17, s18, s19, s20, s21, s22, s23, s24, s25, s26, s27, s28, s29, s30, s31, s32, s33, s34, s35, s36, s37, s38, s39, s40, s41, s42, s43, s44, s45, s46, s47, s48, s49, s50, s51, s52, s53, s54, s55, s56, s57, s58, s59, s60, s61, s62, s63, s64, s65, s66, s67, s68, s69, s70, s71, s72, s73, s74, s75, s76, s77, s78, s79, s80, s81, s82, s83, s84, s85, s86, s87, s88, s89, s90, s91, s92, s93, s94, s95, s96, s97, s98, s99, s100, s101, s102, s103, s104, s105, s106, s107, s108, s109, s110, s111, s112, s113, s114, s115, s116, s117, s118, s119, s120, s121, s122, s123, s124, s125, s126, s127, s128, s129, s130, s131, s132, s133, s134, s135, s136, s137, s138, s139, s140], defers := [] } w0 := by
  obtain ⟨a0, ha0⟩ : ∃ a0 : Act, a0 = { tmps := #[s0, s1, s2, (Value.pointer (some ⟨ga, 0, none⟩)), (Value.pointer (some ⟨gb, 0, none⟩)), (Value.pointer (some ⟨gc, 0, none⟩)), s6, s7, (Value.pointer (some ⟨gu, 0, none⟩)), (Value.pointer (some ⟨gl, 0, none⟩)), s10, s11, s12, s13, s14, s15, s16, s17, s18, s19, s20, s21, s22, s23, s24, s25, s26, s27, s28, s29, s30, s31, s32, s33, s34, s35, s36, s37, s38, s39, s40, s41, s42, s43, s44, s45, s46, s47, s48, s49, s50, s51, s52, s53, s54, s55, s56, s57, s58, s59, s60, s61, s62, s63, s64, s65, s66, s67, s68, s69, s70, s71, s72, s73, s74, s75, s76, s77, s78, s79, s80, s81, s82, s83, s84, s85, s86, s87, s88, s89, s90, s91, s92, s93, s94, s95, s96, s97, s98, s99, s100, s101, s102, s103, s104, s105, s106, s107, s108, s109, s110, s111, s112, s113, s114, s115, s116, s117, s118, s119, s120, s121, s122, s123, s124, s125, s126, s127, s128, s129, s130, s131, s132, s133, s134, s135, s136, s137, s138, s139, s140], defers := [] } := ⟨_, rfl⟩
  have hfin : ∀ v : Nat → Value, Reg.gfr (Reg.opsOf Try.f3 5) a0 v (List.range 26) = { tmps := #[s0, s1, s2, (Value.pointer (some ⟨ga, 0, none⟩)), (Value.pointer (some ⟨gb, 0, none⟩)), (Value.pointer (some ⟨gc, 0, none⟩)), s6, s7, (Value.pointer (some ⟨gu, 0, none⟩)), (Value.pointer (some ⟨gl, 0, none⟩)), s10, s11, s12, s13, s14, s15, s16, s17, s18, s19, s20, s21, s22, s23, s24, s25, s26, s27, s28, s29, s30, s31, s32, s33, s34, s35, s36, s37, s38, s39, s40, s41, s42, v 0, v 1, v 2, v 3, v 4, v 5, v 6, v 7, v 8, v 9, v 10, v 11, v 12, v 13, v 14, v 15, v 16, v 17, v 18, v 19, v 20, v 21, v 22, v 23, v 24, v 25, s69, s70, s71, s72, s73, s74, s75, s76, s77, s78, s79, s80, s81, s82, s83, s84, s85, s86, s87, s88, s89, s90, s91, s92, s93, s94, s95, s96, s97, s98, s99, s100, s101, s102, s103, s104, s105, s106, s107, s108, s109, s110, s111, s112, s113, s114, s115, s116, s117, s118, s119, s120, s121, s122, s123, s124, s125, s126, s127, s128, s129, s130, s131, s132, s133, s134, s135, s136, s137, s138, s139, s140], defers := [] } := fun v => by rw [ha0]; kernel_rfl
  rw [← ha0]
  have i3 : a0.eval (.tmp 3) = (Value.pointer (some ⟨ga, 0, none⟩)) := by rw [ha0]; rfl
  have i4 : a0.eval (.tmp 4) = (Value.pointer (some ⟨gb, 0, none⟩)) := by rw [ha0]; rfl
  have i5 : a0.eval (.tmp 5) = (Value.pointer (some ⟨gc, 0, none⟩)) := by rw [ha0]; rfl
  have i8 : a0.eval (.tmp 8) = (Value.pointer (some ⟨gu, 0, none⟩)) := by rw [ha0]; rfl
  have i9 : a0.eval (.tmp 9) = (Value.pointer (some ⟨gl, 0, none⟩)) := by rw [ha0]; rfl
  have hsz : a0.tmps.size = 141 := by rw [ha0]; rfl
  clear ha0
  have hn : (Reg.opsOf Try.f3 5).size = 26 := by kernel_rfl
  have h0 : Reg.OpOK Try.prog (Reg.opsOf Try.f3 5) a0 w0 (lattice5_tfR a b c u l ga gb gc gu gl q s) (fun _ _ _ _ => True) 0 := by
    refine Reg.op_ok2 (fun af => { dst := some 43, op := Op.load 24 (Operand.tmp 3), type := 24, pos := "outright.go:56", after := af, guard := none }) #[] (by kernel_rfl) [] (by kernel_rfl) fun af v W hb hd => ?_
    have e3 := (Reg.gfr_eval0 (ops := (Reg.opsOf Try.f3 5)) (a0 := a0) (v := v) (L := []) 3 (by kernel_rfl)).trans i3
    refine ⟨Reg.wanted_none rfl, ?_⟩
    generalize Reg.gfr (Reg.opsOf Try.f3 5) a0 v [] = G at e3 ⊢
    generalize hρ : G.eval = ρ at e3
    have hρ' : G.eval = ρ := hρ
    exact fun K hK => wp_load_row 24 (.tmp 3) rfl ga (by rw [hρ']; exact e3) 24 (vC a) (0, 0) _ (M_ga W hb) Try.underlying24 rfl (vec_size ha) (hK _ _ ⟨Below.refl _ _, rfl⟩)
  have h1 : Reg.OpOK Try.prog (Reg.opsOf Try.f3 5) a0 w0 (lattice5_tfR a b c u l ga gb gc gu gl q s) (fun _ _ _ _ => True) 1 := by
    refine Reg.op_ok2 (fun af => { dst := some 44, op := Op.load 24 (Operand.tmp 5), type := 24, pos := "outright.go:56", after := af, guard := none }) #[] (by kernel_rfl) [] (by kernel_rfl) fun af v W hb hd => ?_
    have e5 := (Reg.gfr_eval0 (ops := (Reg.opsOf Try.f3 5)) (a0 := a0) (v := v) (L := []) 5 (by kernel_rfl)).trans i5
    refine ⟨Reg.wanted_none rfl, ?_⟩
    generalize Reg.gfr (Reg.opsOf Try.f3 5) a0 v [] = G at e5 ⊢
    generalize hρ : G.eval = ρ at e5
    have hρ' : G.eval = ρ := hρ
    exact fun K hK => wp_load_row 24 (.tmp 5) rfl gc (by rw [hρ']; exact e5) 24 (vC c) (0, 0) _ (M_gc W hb) Try.underlying24 rfl (vec_size hc) (hK _ _ ⟨Below.refl _ _, rfl⟩)
  have h2 : Reg.OpOK Try.prog (Reg.opsOf Try.f3 5) a0 w0 (lattice5_tfR a b c u l ga gb gc gu gl q s) (fun _ _ _ _ => True) 2 := by
    refine Reg.op_ok2 (fun af => { dst := some 45, op := Op.call { callee := Callee.value (Operand.func 13), args := #[Operand.tmp 43, Operand.tmp 44], argTypes := #[24, 24] }, type := 4, pos := "outright.go:56", after := af, guard := none }) #[{ on := 0, ground := Ground.data }, { on := 1, ground := Ground.data }] (by kernel_rfl) [0, 1] (by kernel_rfl) fun af v W hb hd => ?_
    have d0 : v 0 = (Value.agg (vC a)) := hd 0 (by decide)
    have d1 : v 1 = (Value.agg (vC c)) := hd 1 (by decide)
    have e43 := (Reg.gfr_eval (ops := (Reg.opsOf Try.f3 5)) (a0 := a0) (v := v) (L := [0, 1]) 43 0 (by kernel_rfl) (by rw [hsz]; omega)).trans d0
    have e44 := (Reg.gfr_eval (ops := (Reg.opsOf Try.f3 5)) (a0 := a0) (v := v) (L := [0, 1]) 44 1 (by kernel_rfl) (by rw [hsz]; omega)).trans d1
    refine ⟨Reg.wanted_none rfl, ?_⟩
    have eF : ∀ f, (Reg.gfr (Reg.opsOf Try.f3 5) a0 v [0, 1]).eval (.func f) = .func (.func f) #[] #[] := fun _ => rfl
    generalize Reg.gfr (Reg.opsOf Try.f3 5) a0 v [0, 1] = G at e43 e44 eF ⊢
    generalize hρ : G.eval = ρ at e43 e44 eF
    have hρ' : G.eval = ρ := hρ
    refine Reg.go_call 13 #[(Value.agg (vC a)), (Value.agg (vC c))] (by rw [hρ']; simp [execOp, go_sem, e43, e44, eF]) ((atmost_any a c ha hc W).mono fun e w' he => ?_)
    obtain ⟨rfl, hbb⟩ := he
    exact ⟨_, rfl, hbb, (show _ = _ from by rw [f1])⟩
  have h3 : Reg.OpOK Try.prog (Reg.opsOf Try.f3 5) a0 w0 (lattice5_tfR a b c u l ga gb gc gu gl q s) (fun _ _ _ _ => True) 3 := by
    refine Reg.op_ok2 (fun af => { dst := some 46, op := Op.move (Operand.tmp 45), type := 4, pos := "outright.go:56", after := af, guard := none }) #[{ on := 2, ground := Ground.data }, { on := 2, ground := Ground.chain }] (by kernel_rfl) [2, 2] (by kernel_rfl) fun af v W hb hd => ?_
    have d2 : v 2 = (Value.bool true) := hd 2 (by decide)
    have e45 := (Reg.gfr_eval (ops := (Reg.opsOf Try.f3 5)) (a0 := a0) (v := v) (L := [2, 2]) 45 2 (by kernel_rfl) (by rw [hsz]; omega)).trans d2
    refine ⟨Reg.wanted_none rfl, ?_⟩
    generalize Reg.gfr (Reg.opsOf Try.f3 5) a0 v [2, 2] = G at e45 ⊢
    generalize hρ : G.eval = ρ at e45
    have hρ' : G.eval = ρ := hρ
    refine Reg.go_run (Value.bool true) W ?_ ?_
    · rw [hρ']; simp [execOp, go_sem, e45]
    · exact ⟨Below.refl _ _, rfl⟩
  have h4 : Reg.OpOK Try.prog (Reg.opsOf Try.f3 5) a0 w0 (lattice5_tfR a b c u l ga gb gc gu gl q s) (fun _ _ _ _ => True) 4 := by
    refine Reg.op_ok2 (fun af => { dst := some 47, op := Op.load 24 (Operand.tmp 4), type := 24, pos := "outright.go:56", after := af, guard := some (3, true) }) #[{ on := 3, ground := Ground.guard }] (by kernel_rfl) [3] (by kernel_rfl) fun af v W hb hd => ?_
    have d3 : v 3 = (Value.bool true) := hd 3 (by decide)
    have e4 := (Reg.gfr_eval0 (ops := (Reg.opsOf Try.f3 5)) (a0 := a0) (v := v) (L := [3]) 4 (by kernel_rfl)).trans i4
    have e46 := (Reg.gfr_eval (ops := (Reg.opsOf Try.f3 5)) (a0 := a0) (v := v) (L := [3]) 46 3 (by kernel_rfl) (by rw [hsz]; omega)).trans d3
    refine ⟨Reg.wanted_of rfl (by kernel_rfl) e46, ?_⟩
    generalize Reg.gfr (Reg.opsOf Try.f3 5) a0 v [3] = G at e4 ⊢
    generalize hρ : G.eval = ρ at e4
    have hρ' : G.eval = ρ := hρ
    exact fun K hK => wp_load_row 24 (.tmp 4) rfl gb (by rw [hρ']; exact e4) 24 (vC b) (0, 0) _ (M_gb W hb) Try.underlying24 rfl (vec_size hb') (hK _ _ ⟨Below.refl _ _, rfl⟩)
  have h5 : Reg.OpOK Try.prog (Reg.opsOf Try.f3 5) a0 w0 (lattice5_tfR a b c u l ga gb gc gu gl q s) (fun _ _ _ _ => True) 5 := by
    refine Reg.op_ok2 (fun af => { dst := some 48, op := Op.load 24 (Operand.tmp 5), type := 24, pos := "outright.go:56", after := af, guard := some (3, true) }) #[{ on := 3, ground := Ground.guard }] (by kernel_rfl) [3] (by kernel_rfl) fun af v W hb hd => ?_
    have d3 : v 3 = (Value.bool true) := hd 3 (by decide)
    have e5 := (Reg.gfr_eval0 (ops := (Reg.opsOf Try.f3 5)) (a0 := a0) (v := v) (L := [3]) 5 (by kernel_rfl)).trans i5
    have e46 := (Reg.gfr_eval (ops := (Reg.opsOf Try.f3 5)) (a0 := a0) (v := v) (L := [3]) 46 3 (by kernel_rfl) (by rw [hsz]; omega)).trans d3
    refine ⟨Reg.wanted_of rfl (by kernel_rfl) e46, ?_⟩
    generalize Reg.gfr (Reg.opsOf Try.f3 5) a0 v [3] = G at e5 ⊢
    generalize hρ : G.eval = ρ at e5
    have hρ' : G.eval = ρ := hρ
    exact fun K hK => wp_load_row 24 (.tmp 5) rfl gc (by rw [hρ']; exact e5) 24 (vC c) (0, 0) _ (M_gc W hb) Try.underlying24 rfl (vec_size hc) (hK _ _ ⟨Below.refl _ _, rfl⟩)
  have h6 : Reg.OpOK Try.prog (Reg.opsOf Try.f3 5) a0 w0 (lattice5_tfR a b c u l ga gb gc gu gl q s) (fun _ _ _ _ => True) 6 := by
    refine Reg.op_ok2 (fun af => { dst := some 49, op := Op.call { callee := Callee.value (Operand.func 13), args := #[Operand.tmp 47, Operand.tmp 48], argTypes := #[24, 24] }, type := 4, pos := "outright.go:56", after := af, guard := some (3, true) }) #[{ on := 4, ground := Ground.data }, { on := 5, ground := Ground.data }, { on := 3, ground := Ground.chain }, { on := 3, ground := Ground.guard }] (by kernel_rfl) [4, 5, 3, 3] (by kernel_rfl) fun af v W hb hd => ?_
    have d3 : v 3 = (Value.bool true) := hd 3 (by decide)
    have d4 : v 4 = (Value.agg (vC b)) := hd 4 (by decide)
    have d5 : v 5 = (Value.agg (vC c)) := hd 5 (by decide)
    have e47 := (Reg.gfr_eval (ops := (Reg.opsOf Try.f3 5)) (a0 := a0) (v := v) (L := [4, 5, 3, 3]) 47 4 (by kernel_rfl) (by rw [hsz]; omega)).trans d4
    have e48 := (Reg.gfr_eval (ops := (Reg.opsOf Try.f3 5)) (a0 := a0) (v := v) (L := [4, 5, 3, 3]) 48 5 (by kernel_rfl) (by rw [hsz]; omega)).trans d5
    have e46 := (Reg.gfr_eval (ops := (Reg.opsOf Try.f3 5)) (a0 := a0) (v := v) (L := [4, 5, 3, 3]) 46 3 (by kernel_rfl) (by rw [hsz]; omega)).trans d3
    refine ⟨Reg.wanted_of rfl (by kernel_rfl) e46, ?_⟩
    have eF : ∀ f, (Reg.gfr (Reg.opsOf Try.f3 5) a0 v [4, 5, 3, 3]).eval (.func f) = .func (.func f) #[] #[] := fun _ => rfl
    generalize Reg.gfr (Reg.opsOf Try.f3 5) a0 v [4, 5, 3, 3] = G at e47 e48 eF ⊢
    generalize hρ : G.eval = ρ at e47 e48 eF
    have hρ' : G.eval = ρ := hρ
    refine Reg.go_call 13 #[(Value.agg (vC b)), (Value.agg (vC c))] (by rw [hρ']; simp [execOp, go_sem, e47, e48, eF]) ((atmost_any b c hb' hc W).mono fun e w' he => ?_)
    obtain ⟨rfl, hbb⟩ := he
    exact ⟨_, rfl, hbb, (show _ = _ from by rw [f2])⟩
  have h7 : Reg.OpOK Try.prog (Reg.opsOf Try.f3 5) a0 w0 (lattice5_tfR a b c u l ga gb gc gu gl q s) (fun _ _ _ _ => True) 7 := by
    refine Reg.op_ok2 (fun af => { dst := some 50, op := Op.pick (Operand.tmp 46) (Operand.tmp 49) (Operand.const (Value.bool false)), type := 4, pos := "outright.go:56", after := af, guard := none }) #[{ on := 3, ground := Ground.data }, { on := 6, ground := Ground.data }] (by kernel_rfl) [3, 6] (by kernel_rfl) fun af v W hb hd => ?_
    have d3 : v 3 = (Value.bool true) := hd 3 (by decide)
    have d6 : v 6 = (Value.bool q) := hd 6 (by decide)
    have e46 := (Reg.gfr_eval (ops := (Reg.opsOf Try.f3 5)) (a0 := a0) (v := v) (L := [3, 6]) 46 3 (by kernel_rfl) (by rw [hsz]; omega)).trans d3
    have e49 := (Reg.gfr_eval (ops := (Reg.opsOf Try.f3 5)) (a0 := a0) (v := v) (L := [3, 6]) 49 6 (by kernel_rfl) (by rw [hsz]; omega)).trans d6
    refine ⟨Reg.wanted_none rfl, ?_⟩
    have eC : ∀ x, (Reg.gfr (Reg.opsOf Try.f3 5) a0 v [3, 6]).eval (.const x) = x := fun _ => rfl
    generalize Reg.gfr (Reg.opsOf Try.f3 5) a0 v [3, 6] = G at e46 e49 eC ⊢
    generalize hρ : G.eval = ρ at e46 e49 eC
    have hρ' : G.eval = ρ := hρ
    refine Reg.go_run (Value.bool q) W ?_ ?_
    · rw [hρ']; simp [execOp, go_sem, e46, e49, eC]
    · exact ⟨Below.refl _ _, rfl⟩
  have h8 : Reg.OpOK Try.prog (Reg.opsOf Try.f3 5) a0 w0 (lattice5_tfR a b c u l ga gb gc gu gl q s) (fun _ _ _ _ => True) 8 := by
    refine Reg.op_ok2 (fun af => { dst := some 51, op := Op.load 24 (Operand.tmp 8), type := 24, pos := "outright.go:56", after := af, guard := none }) #[] (by kernel_rfl) [] (by kernel_rfl) fun af v W hb hd => ?_
    have e8 := (Reg.gfr_eval0 (ops := (Reg.opsOf Try.f3 5)) (a0 := a0) (v := v) (L := []) 8 (by kernel_rfl)).trans i8
    refine ⟨Reg.wanted_none rfl, ?_⟩
    generalize Reg.gfr (Reg.opsOf Try.f3 5) a0 v [] = G at e8 ⊢
    generalize hρ : G.eval = ρ at e8
    have hρ' : G.eval = ρ := hρ
    exact fun K hK => wp_load_row 24 (.tmp 8) rfl gu (by rw [hρ']; exact e8) 24 (vC u) (0, 0) _ (M_gu W hb) Try.underlying24 rfl (vec_size hu) (hK _ _ ⟨Below.refl _ _, rfl⟩)
  have h9 : Reg.OpOK Try.prog (Reg.opsOf Try.f3 5) a0 w0 (lattice5_tfR a b c u l ga gb gc gu gl q s) (fun _ _ _ _ => True) 9 := by
    refine Reg.op_ok2 (fun af => { dst := some 52, op := Op.load 24 (Operand.tmp 5), type := 24, pos := "outright.go:56", after := af, guard := none }) #[] (by kernel_rfl) [] (by kernel_rfl) fun af v W hb hd => ?_
    have e5 := (Reg.gfr_eval0 (ops := (Reg.opsOf Try.f3 5)) (a0 := a0) (v := v) (L := []) 5 (by kernel_rfl)).trans i5
    refine ⟨Reg.wanted_none rfl, ?_⟩
    generalize Reg.gfr (Reg.opsOf Try.f3 5) a0 v [] = G at e5 ⊢
    generalize hρ : G.eval = ρ at e5
    have hρ' : G.eval = ρ := hρ
    exact fun K hK => wp_load_row 24 (.tmp 5) rfl gc (by rw [hρ']; exact e5) 24 (vC c) (0, 0) _ (M_gc W hb) Try.underlying24 rfl (vec_size hc) (hK _ _ ⟨Below.refl _ _, rfl⟩)
  have h10 : Reg.OpOK Try.prog (Reg.opsOf Try.f3 5) a0 w0 (lattice5_tfR a b c u l ga gb gc gu gl q s) (fun _ _ _ _ => True) 10 := by
    refine Reg.op_ok2 (fun af => { dst := some 53, op := Op.call { callee := Callee.value (Operand.func 13), args := #[Operand.tmp 51, Operand.tmp 52], argTypes := #[24, 24] }, type := 4, pos := "outright.go:56", after := af, guard := none }) #[{ on := 8, ground := Ground.data }, { on := 9, ground := Ground.data }, { on := 6, ground := Ground.chain }] (by kernel_rfl) [8, 9, 6] (by kernel_rfl) fun af v W hb hd => ?_
    have d8 : v 8 = (Value.agg (vC u)) := hd 8 (by decide)
    have d9 : v 9 = (Value.agg (vC c)) := hd 9 (by decide)
    have e51 := (Reg.gfr_eval (ops := (Reg.opsOf Try.f3 5)) (a0 := a0) (v := v) (L := [8, 9, 6]) 51 8 (by kernel_rfl) (by rw [hsz]; omega)).trans d8
    have e52 := (Reg.gfr_eval (ops := (Reg.opsOf Try.f3 5)) (a0 := a0) (v := v) (L := [8, 9, 6]) 52 9 (by kernel_rfl) (by rw [hsz]; omega)).trans d9
    refine ⟨Reg.wanted_none rfl, ?_⟩
    have eF : ∀ f, (Reg.gfr (Reg.opsOf Try.f3 5) a0 v [8, 9, 6]).eval (.func f) = .func (.func f) #[] #[] := fun _ => rfl
    generalize Reg.gfr (Reg.opsOf Try.f3 5) a0 v [8, 9, 6] = G at e51 e52 eF ⊢
    generalize hρ : G.eval = ρ at e51 e52 eF
    have hρ' : G.eval = ρ := hρ
    refine Reg.go_call 13 #[(Value.agg (vC u)), (Value.agg (vC c))] (by rw [hρ']; simp [execOp, go_sem, e51, e52, eF]) ((atmost_any u c hu hc W).mono fun e w' he => ?_)
    obtain ⟨rfl, hbb⟩ := he
    exact ⟨_, rfl, hbb, (show _ = _ from by rw [f3])⟩
  have h11 : Reg.OpOK Try.prog (Reg.opsOf Try.f3 5) a0 w0 (lattice5_tfR a b c u l ga gb gc gu gl q s) (fun _ _ _ _ => True) 11 := by
    refine Reg.op_ok2 (fun af => { dst := some 54, op := Op.binOp BinOp.neq 4 (Operand.tmp 50) (Operand.tmp 53) 4, type := 4, pos := "outright.go:56", after := af, guard := none }) #[{ on := 7, ground := Ground.data }, { on := 10, ground := Ground.data }] (by kernel_rfl) [7, 10] (by kernel_rfl) fun af v W hb hd => ?_
    have d7 : v 7 = (Value.bool q) := hd 7 (by decide)
    have d10 : v 10 = (Value.bool q) := hd 10 (by decide)
    have e50 := (Reg.gfr_eval (ops := (Reg.opsOf Try.f3 5)) (a0 := a0) (v := v) (L := [7, 10]) 50 7 (by kernel_rfl) (by rw [hsz]; omega)).trans d7
    have e53 := (Reg.gfr_eval (ops := (Reg.opsOf Try.f3 5)) (a0 := a0) (v := v) (L := [7, 10]) 53 10 (by kernel_rfl) (by rw [hsz]; omega)).trans d10
    refine ⟨Reg.wanted_none rfl, ?_⟩
    generalize Reg.gfr (Reg.opsOf Try.f3 5) a0 v [7, 10] = G at e50 e53 ⊢
    generalize hρ : G.eval = ρ at e50 e53
    have hρ' : G.eval = ρ := hρ
    refine Reg.go_run (Value.bool false) W ?_ ?_
    · rw [hρ']; simp [execOp, go_sem, e50, e53]
    · exact ⟨Below.refl _ _, rfl⟩
  have h12 : Reg.OpOK Try.prog (Reg.opsOf Try.f3 5) a0 w0 (lattice5_tfR a b c u l ga gb gc gu gl q s) (fun _ _ _ _ => True) 12 := by
    refine Reg.op_ok2 (fun af => { dst := some 55, op := Op.move (Operand.tmp 54), type := 4, pos := "outright.go:56", after := af, guard := none }) #[{ on := 11, ground := Ground.data }, { on := 10, ground := Ground.chain }] (by kernel_rfl) [11, 10] (by kernel_rfl) fun af v W hb hd => ?_
    have d11 : v 11 = (Value.bool false) := hd 11 (by decide)
    have e54 := (Reg.gfr_eval (ops := (Reg.opsOf Try.f3 5)) (a0 := a0) (v := v) (L := [11, 10]) 54 11 (by kernel_rfl) (by rw [hsz]; omega)).trans d11
    refine ⟨Reg.wanted_none rfl, ?_⟩
    generalize Reg.gfr (Reg.opsOf Try.f3 5) a0 v [11, 10] = G at e54 ⊢
    generalize hρ : G.eval = ρ at e54
    have hρ' : G.eval = ρ := hρ
    refine Reg.go_run (Value.bool false) W ?_ ?_
    · rw [hρ']; simp [execOp, go_sem, e54]
    · exact ⟨Below.refl _ _, rfl⟩
  have h13 : Reg.OpOK Try.prog (Reg.opsOf Try.f3 5) a0 w0 (lattice5_tfR a b c u l ga gb gc gu gl q s) (fun _ _ _ _ => True) 13 := by
    refine Reg.op_ok2 (fun af => { dst := some 56, op := Op.load 24 (Operand.tmp 5), type := 24, pos := "outright.go:56", after := af, guard := some (12, false) }) #[{ on := 12, ground := Ground.guard }] (by kernel_rfl) [12] (by kernel_rfl) fun af v W hb hd => ?_
    have d12 : v 12 = (Value.bool false) := hd 12 (by decide)
    have e5 := (Reg.gfr_eval0 (ops := (Reg.opsOf Try.f3 5)) (a0 := a0) (v := v) (L := [12]) 5 (by kernel_rfl)).trans i5
    have e55 := (Reg.gfr_eval (ops := (Reg.opsOf Try.f3 5)) (a0 := a0) (v := v) (L := [12]) 55 12 (by kernel_rfl) (by rw [hsz]; omega)).trans d12
    refine ⟨Reg.wanted_of rfl (by kernel_rfl) e55, ?_⟩
    generalize Reg.gfr (Reg.opsOf Try.f3 5) a0 v [12] = G at e5 ⊢
    generalize hρ : G.eval = ρ at e5
    have hρ' : G.eval = ρ := hρ
    exact fun K hK => wp_load_row 24 (.tmp 5) rfl gc (by rw [hρ']; exact e5) 24 (vC c) (0, 0) _ (M_gc W hb) Try.underlying24 rfl (vec_size hc) (hK _ _ ⟨Below.refl _ _, rfl⟩)
  have h14 : Reg.OpOK Try.prog (Reg.opsOf Try.f3 5) a0 w0 (lattice5_tfR a b c u l ga gb gc gu gl q s) (fun _ _ _ _ => True) 14 := by
    refine Reg.op_ok2 (fun af => { dst := some 57, op := Op.load 24 (Operand.tmp 3), type := 24, pos := "outright.go:56", after := af, guard := some (12, false) }) #[{ on := 12, ground := Ground.guard }] (by kernel_rfl) [12] (by kernel_rfl) fun af v W hb hd => ?_
    have d12 : v 12 = (Value.bool false) := hd 12 (by decide)
    have e3 := (Reg.gfr_eval0 (ops := (Reg.opsOf Try.f3 5)) (a0 := a0) (v := v) (L := [12]) 3 (by kernel_rfl)).trans i3
    have e55 := (Reg.gfr_eval (ops := (Reg.opsOf Try.f3 5)) (a0 := a0) (v := v) (L := [12]) 55 12 (by kernel_rfl) (by rw [hsz]; omega)).trans d12
    refine ⟨Reg.wanted_of rfl (by kernel_rfl) e55, ?_⟩
    generalize Reg.gfr (Reg.opsOf Try.f3 5) a0 v [12] = G at e3 ⊢
    generalize hρ : G.eval = ρ at e3
    have hρ' : G.eval = ρ := hρ
    exact fun K hK => wp_load_row 24 (.tmp 3) rfl ga (by rw [hρ']; exact e3) 24 (vC a) (0, 0) _ (M_ga W hb) Try.underlying24 rfl (vec_size ha) (hK _ _ ⟨Below.refl _ _, rfl⟩)
  have h15 : Reg.OpOK Try.prog (Reg.opsOf Try.f3 5) a0 w0 (lattice5_tfR a b c u l ga gb gc gu gl q s) (fun _ _ _ _ => True) 15 := by
    refine Reg.op_ok2 (fun af => { dst := some 58, op := Op.call { callee := Callee.value (Operand.func 13), args := #[Operand.tmp 56, Operand.tmp 57], argTypes := #[24, 24] }, type := 4, pos := "outright.go:56", after := af, guard := some (12, false) }) #[{ on := 13, ground := Ground.data }, { on := 14, ground := Ground.data }, { on := 12, ground := Ground.chain }, { on := 12, ground := Ground.guard }] (by kernel_rfl) [13, 14, 12, 12] (by kernel_rfl) fun af v W hb hd => ?_
    have d12 : v 12 = (Value.bool false) := hd 12 (by decide)
    have d13 : v 13 = (Value.agg (vC c)) := hd 13 (by decide)
    have d14 : v 14 = (Value.agg (vC a)) := hd 14 (by decide)
    have e56 := (Reg.gfr_eval (ops := (Reg.opsOf Try.f3 5)) (a0 := a0) (v := v) (L := [13, 14, 12, 12]) 56 13 (by kernel_rfl) (by rw [hsz]; omega)).trans d13
    have e57 := (Reg.gfr_eval (ops := (Reg.opsOf Try.f3 5)) (a0 := a0) (v := v) (L := [13, 14, 12, 12]) 57 14 (by kernel_rfl) (by rw [hsz]; omega)).trans d14
    have e55 := (Reg.gfr_eval (ops := (Reg.opsOf Try.f3 5)) (a0 := a0) (v := v) (L := [13, 14, 12, 12]) 55 12 (by kernel_rfl) (by rw [hsz]; omega)).trans d12
    refine ⟨Reg.wanted_of rfl (by kernel_rfl) e55, ?_⟩
    have eF : ∀ f, (Reg.gfr (Reg.opsOf Try.f3 5) a0 v [13, 14, 12, 12]).eval (.func f) = .func (.func f) #[] #[] := fun _ => rfl
    generalize Reg.gfr (Reg.opsOf Try.f3 5) a0 v [13, 14, 12, 12] = G at e56 e57 eF ⊢
    generalize hρ : G.eval = ρ at e56 e57 eF
    have hρ' : G.eval = ρ := hρ
    refine Reg.go_call 13 #[(Value.agg (vC c)), (Value.agg (vC a))] (by rw [hρ']; simp [execOp, go_sem, e56, e57, eF]) ((atmost_any c a hc ha W).mono fun e w' he => ?_)
    obtain ⟨rfl, hbb⟩ := he
    exact ⟨_, rfl, hbb, (show _ = _ from by rw [f4])⟩
  have h16 : Reg.OpOK Try.prog (Reg.opsOf Try.f3 5) a0 w0 (lattice5_tfR a b c u l ga gb gc gu gl q s) (fun _ _ _ _ => True) 16 := by
    refine Reg.op_ok2 (fun af => { dst := some 59, op := Op.move (Operand.tmp 58), type := 4, pos := "outright.go:56", after := af, guard := some (12, false) }) #[{ on := 15, ground := Ground.data }, { on := 15, ground := Ground.chain }, { on := 12, ground := Ground.guard }] (by kernel_rfl) [15, 15, 12] (by kernel_rfl) fun af v W hb hd => ?_
    have d12 : v 12 = (Value.bool false) := hd 12 (by decide)
    have d15 : v 15 = (Value.bool false) := hd 15 (by decide)
    have e58 := (Reg.gfr_eval (ops := (Reg.opsOf Try.f3 5)) (a0 := a0) (v := v) (L := [15, 15, 12]) 58 15 (by kernel_rfl) (by rw [hsz]; omega)).trans d15
    have e55 := (Reg.gfr_eval (ops := (Reg.opsOf Try.f3 5)) (a0 := a0) (v := v) (L := [15, 15, 12]) 55 12 (by kernel_rfl) (by rw [hsz]; omega)).trans d12
    refine ⟨Reg.wanted_of rfl (by kernel_rfl) e55, ?_⟩
    generalize Reg.gfr (Reg.opsOf Try.f3 5) a0 v [15, 15, 12] = G at e58 ⊢
    generalize hρ : G.eval = ρ at e58
    have hρ' : G.eval = ρ := hρ
    refine Reg.go_run (Value.bool false) W ?_ ?_
    · rw [hρ']; simp [execOp, go_sem, e58]
    · exact ⟨Below.refl _ _, rfl⟩
  have h17 : Reg.OpOK Try.prog (Reg.opsOf Try.f3 5) a0 w0 (lattice5_tfR a b c u l ga gb gc gu gl q s) (fun _ _ _ _ => True) 17 := by
    refine Reg.op_no2 (fun af => { dst := some 60, op := Op.load 24 (Operand.tmp 5), type := 24, pos := "outright.go:56", after := af, guard := some (16, true) }) #[{ on := 16, ground := Ground.guard }] (by kernel_rfl) [16] (by kernel_rfl) fun af v W hb hd => ?_
    have d16 : v 16 = (Value.bool false) := hd 16 (by decide)
    have e59 := (Reg.gfr_eval (ops := (Reg.opsOf Try.f3 5)) (a0 := a0) (v := v) (L := [16]) 59 16 (by kernel_rfl) (by rw [hsz]; omega)).trans d16
    exact ⟨Reg.wanted_not rfl (by kernel_rfl) e59, rfl, fun _ _ _ _ => ⟨trivial, trivial⟩⟩
  have h18 : Reg.OpOK Try.prog (Reg.opsOf Try.f3 5) a0 w0 (lattice5_tfR a b c u l ga gb gc gu gl q s) (fun _ _ _ _ => True) 18 := by
    refine Reg.op_no2 (fun af => { dst := some 61, op := Op.load 24 (Operand.tmp 4), type := 24, pos := "outright.go:56", after := af, guard := some (16, true) }) #[{ on := 16, ground := Ground.guard }] (by kernel_rfl) [16] (by kernel_rfl) fun af v W hb hd => ?_
    have d16 : v 16 = (Value.bool false) := hd 16 (by decide)
    have e59 := (Reg.gfr_eval (ops := (Reg.opsOf Try.f3 5)) (a0 := a0) (v := v) (L := [16]) 59 16 (by kernel_rfl) (by rw [hsz]; omega)).trans d16
    exact ⟨Reg.wanted_not rfl (by kernel_rfl) e59, rfl, fun _ _ _ _ => ⟨trivial, trivial⟩⟩
  have h19 : Reg.OpOK Try.prog (Reg.opsOf Try.f3 5) a0 w0 (lattice5_tfR a b c u l ga gb gc gu gl q s) (fun _ _ _ _ => True) 19 := by
    refine Reg.op_no2 (fun af => { dst := some 62, op := Op.call { callee := Callee.value (Operand.func 13), args := #[Operand.tmp 60, Operand.tmp 61], argTypes := #[24, 24] }, type := 4, pos := "outright.go:56", after := af, guard := some (16, true) }) #[{ on := 17, ground := Ground.data }, { on := 18, ground := Ground.data }, { on := 16, ground := Ground.chain }, { on := 16, ground := Ground.guard }] (by kernel_rfl) [17, 18, 16, 16] (by kernel_rfl) fun af v W hb hd => ?_
    have d16 : v 16 = (Value.bool false) := hd 16 (by decide)
    have e59 := (Reg.gfr_eval (ops := (Reg.opsOf Try.f3 5)) (a0 := a0) (v := v) (L := [17, 18, 16, 16]) 59 16 (by kernel_rfl) (by rw [hsz]; omega)).trans d16
    exact ⟨Reg.wanted_not rfl (by kernel_rfl) e59, rfl, fun _ _ _ _ => ⟨trivial, trivial⟩⟩
  have h20 : Reg.OpOK Try.prog (Reg.opsOf Try.f3 5) a0 w0 (lattice5_tfR a b c u l ga gb gc gu gl q s) (fun _ _ _ _ => True) 20 := by
    refine Reg.op_ok2 (fun af => { dst := some 63, op := Op.pick (Operand.tmp 59) (Operand.tmp 62) (Operand.const (Value.bool false)), type := 4, pos := "outright.go:56", after := af, guard := some (12, false) }) #[{ on := 16, ground := Ground.data }, { on := 19, ground := Ground.data }, { on := 12, ground := Ground.guard }] (by kernel_rfl) [16, 19, 12] (by kernel_rfl) fun af v W hb hd => ?_
    have d12 : v 12 = (Value.bool false) := hd 12 (by decide)
    have d16 : v 16 = (Value.bool false) := hd 16 (by decide)
    have d19 : v 19 = undef := hd 19 (by decide)
    have e59 := (Reg.gfr_eval (ops := (Reg.opsOf Try.f3 5)) (a0 := a0) (v := v) (L := [16, 19, 12]) 59 16 (by kernel_rfl) (by rw [hsz]; omega)).trans d16
    have e62 := (Reg.gfr_eval (ops := (Reg.opsOf Try.f3 5)) (a0 := a0) (v := v) (L := [16, 19, 12]) 62 19 (by kernel_rfl) (by rw [hsz]; omega)).trans d19
    have e55 := (Reg.gfr_eval (ops := (Reg.opsOf Try.f3 5)) (a0 := a0) (v := v) (L := [16, 19, 12]) 55 12 (by kernel_rfl) (by rw [hsz]; omega)).trans d12
    refine ⟨Reg.wanted_of rfl (by kernel_rfl) e55, ?_⟩
    have eC : ∀ x, (Reg.gfr (Reg.opsOf Try.f3 5) a0 v [16, 19, 12]).eval (.const x) = x := fun _ => rfl
    generalize Reg.gfr (Reg.opsOf Try.f3 5) a0 v [16, 19, 12] = G at e59 e62 eC ⊢
    generalize hρ : G.eval = ρ at e59 e62 eC
    have hρ' : G.eval = ρ := hρ
    refine Reg.go_run (Value.bool false) W ?_ ?_
    · rw [hρ']; simp [execOp, go_sem, e59, e62, eC]
    · exact ⟨Below.refl _ _, rfl⟩
  have h21 : Reg.OpOK Try.prog (Reg.opsOf Try.f3 5) a0 w0 (lattice5_tfR a b c u l ga gb gc gu gl q s) (fun _ _ _ _ => True) 21 := by
    refine Reg.op_ok2 (fun af => { dst := some 64, op := Op.load 24 (Operand.tmp 5), type := 24, pos := "outright.go:56", after := af, guard := some (12, false) }) #[{ on := 12, ground := Ground.guard }] (by kernel_rfl) [12] (by kernel_rfl) fun af v W hb hd => ?_
    have d12 : v 12 = (Value.bool false) := hd 12 (by decide)
    have e5 := (Reg.gfr_eval0 (ops := (Reg.opsOf Try.f3 5)) (a0 := a0) (v := v) (L := [12]) 5 (by kernel_rfl)).trans i5
    have e55 := (Reg.gfr_eval (ops := (Reg.opsOf Try.f3 5)) (a0 := a0) (v := v) (L := [12]) 55 12 (by kernel_rfl) (by rw [hsz]; omega)).trans d12
    refine ⟨Reg.wanted_of rfl (by kernel_rfl) e55, ?_⟩
    generalize Reg.gfr (Reg.opsOf Try.f3 5) a0 v [12] = G at e5 ⊢
    generalize hρ : G.eval = ρ at e5
    have hρ' : G.eval = ρ := hρ
    exact fun K hK => wp_load_row 24 (.tmp 5) rfl gc (by rw [hρ']; exact e5) 24 (vC c) (0, 0) _ (M_gc W hb) Try.underlying24 rfl (vec_size hc) (hK _ _ ⟨Below.refl _ _, rfl⟩)
  have h22 : Reg.OpOK Try.prog (Reg.opsOf Try.f3 5) a0 w0 (lattice5_tfR a b c u l ga gb gc gu gl q s) (fun _ _ _ _ => True) 22 := by
    refine Reg.op_ok2 (fun af => { dst := some 65, op := Op.load 24 (Operand.tmp 9), type := 24, pos := "outright.go:56", after := af, guard := some (12, false) }) #[{ on := 12, ground := Ground.guard }] (by kernel_rfl) [12] (by kernel_rfl) fun af v W hb hd => ?_
    have d12 : v 12 = (Value.bool false) := hd 12 (by decide)
    have e9 := (Reg.gfr_eval0 (ops := (Reg.opsOf Try.f3 5)) (a0 := a0) (v := v) (L := [12]) 9 (by kernel_rfl)).trans i9
    have e55 := (Reg.gfr_eval (ops := (Reg.opsOf Try.f3 5)) (a0 := a0) (v := v) (L := [12]) 55 12 (by kernel_rfl) (by rw [hsz]; omega)).trans d12
    refine ⟨Reg.wanted_of rfl (by kernel_rfl) e55, ?_⟩
    generalize Reg.gfr (Reg.opsOf Try.f3 5) a0 v [12] = G at e9 ⊢
    generalize hρ : G.eval = ρ at e9
    have hρ' : G.eval = ρ := hρ
    exact fun K hK => wp_load_row 24 (.tmp 9) rfl gl (by rw [hρ']; exact e9) 24 (vC l) (0, 0) _ (M_gl W hb) Try.underlying24 rfl (vec_size hl) (hK _ _ ⟨Below.refl _ _, rfl⟩)
  have h23 : Reg.OpOK Try.prog (Reg.opsOf Try.f3 5) a0 w0 (lattice5_tfR a b c u l ga gb gc gu gl q s) (fun _ _ _ _ => True) 23 := by
    refine Reg.op_ok2 (fun af => { dst := some 66, op := Op.call { callee := Callee.value (Operand.func 13), args := #[Operand.tmp 64, Operand.tmp 65], argTypes := #[24, 24] }, type := 4, pos := "outright.go:56", after := af, guard := some (12, false) }) #[{ on := 21, ground := Ground.data }, { on := 22, ground := Ground.data }, { on := 19, ground := Ground.chain }, { on := 12, ground := Ground.guard }] (by kernel_rfl) [21, 22, 19, 12] (by kernel_rfl) fun af v W hb hd => ?_
    have d12 : v 12 = (Value.bool false) := hd 12 (by decide)
    have d21 : v 21 = (Value.agg (vC c)) := hd 21 (by decide)
    have d22 : v 22 = (Value.agg (vC l)) := hd 22 (by decide)
    have e64 := (Reg.gfr_eval (ops := (Reg.opsOf Try.f3 5)) (a0 := a0) (v := v) (L := [21, 22, 19, 12]) 64 21 (by kernel_rfl) (by rw [hsz]; omega)).trans d21
    have e65 := (Reg.gfr_eval (ops := (Reg.opsOf Try.f3 5)) (a0 := a0) (v := v) (L := [21, 22, 19, 12]) 65 22 (by kernel_rfl) (by rw [hsz]; omega)).trans d22
    have e55 := (Reg.gfr_eval (ops := (Reg.opsOf Try.f3 5)) (a0 := a0) (v := v) (L := [21, 22, 19, 12]) 55 12 (by kernel_rfl) (by rw [hsz]; omega)).trans d12
    refine ⟨Reg.wanted_of rfl (by kernel_rfl) e55, ?_⟩
    have eF : ∀ f, (Reg.gfr (Reg.opsOf Try.f3 5) a0 v [21, 22, 19, 12]).eval (.func f) = .func (.func f) #[] #[] := fun _ => rfl
    generalize Reg.gfr (Reg.opsOf Try.f3 5) a0 v [21, 22, 19, 12] = G at e64 e65 eF ⊢
    generalize hρ : G.eval = ρ at e64 e65 eF
    have hρ' : G.eval = ρ := hρ
    refine Reg.go_call 13 #[(Value.agg (vC c)), (Value.agg (vC l))] (by rw [hρ']; simp [execOp, go_sem, e64, e65, eF]) ((atmost_any c l hc hl W).mono fun e w' he => ?_)
    obtain ⟨rfl, hbb⟩ := he
    exact ⟨_, rfl, hbb, (show _ = _ from by rw [f6])⟩
  have h24 : Reg.OpOK Try.prog (Reg.opsOf Try.f3 5) a0 w0 (lattice5_tfR a b c u l ga gb gc gu gl q s) (fun _ _ _ _ => True) 24 := by
    refine Reg.op_ok2 (fun af => { dst := some 67, op := Op.binOp BinOp.neq 4 (Operand.tmp 63) (Operand.tmp 66) 4, type := 4, pos := "outright.go:56", after := af, guard := some (12, false) }) #[{ on := 20, ground := Ground.data }, { on := 23, ground := Ground.data }, { on := 12, ground := Ground.guard }] (by kernel_rfl) [20, 23, 12] (by kernel_rfl) fun af v W hb hd => ?_
    have d12 : v 12 = (Value.bool false) := hd 12 (by decide)
    have d20 : v 20 = (Value.bool false) := hd 20 (by decide)
    have d23 : v 23 = (Value.bool false) := hd 23 (by decide)
    have e63 := (Reg.gfr_eval (ops := (Reg.opsOf Try.f3 5)) (a0 := a0) (v := v) (L := [20, 23, 12]) 63 20 (by kernel_rfl) (by rw [hsz]; omega)).trans d20
    have e66 := (Reg.gfr_eval (ops := (Reg.opsOf Try.f3 5)) (a0 := a0) (v := v) (L := [20, 23, 12]) 66 23 (by kernel_rfl) (by rw [hsz]; omega)).trans d23
    have e55 := (Reg.gfr_eval (ops := (Reg.opsOf Try.f3 5)) (a0 := a0) (v := v) (L := [20, 23, 12]) 55 12 (by kernel_rfl) (by rw [hsz]; omega)).trans d12
    refine ⟨Reg.wanted_of rfl (by kernel_rfl) e55, ?_⟩
    generalize Reg.gfr (Reg.opsOf Try.f3 5) a0 v [20, 23, 12] = G at e63 e66 ⊢
    generalize hρ : G.eval = ρ at e63 e66
    have hρ' : G.eval = ρ := hρ
    refine Reg.go_run (Value.bool false) W ?_ ?_
    · rw [hρ']; simp [execOp, go_sem, e63, e66]
    · exact ⟨Below.refl _ _, rfl⟩
  have h25 : Reg.OpOK Try.prog (Reg.opsOf Try.f3 5) a0 w0 (lattice5_tfR a b c u l ga gb gc gu gl q s) (fun _ _ _ _ => True) 25 := by
    refine Reg.op_ok2 (fun af => { dst := some 68, op := Op.pick (Operand.tmp 55) (Operand.const (Value.bool true)) (Operand.tmp 67), type := 4, pos := "outright.go:56", after := af, guard := none }) #[{ on := 12, ground := Ground.data }, { on := 24, ground := Ground.data }] (by kernel_rfl) [12, 24] (by kernel_rfl) fun af v W hb hd => ?_
    have d12 : v 12 = (Value.bool false) := hd 12 (by decide)
    have d24 : v 24 = (Value.bool false) := hd 24 (by decide)
    have e55 := (Reg.gfr_eval (ops := (Reg.opsOf Try.f3 5)) (a0 := a0) (v := v) (L := [12, 24]) 55 12 (by kernel_rfl) (by rw [hsz]; omega)).trans d12
    have e67 := (Reg.gfr_eval (ops := (Reg.opsOf Try.f3 5)) (a0 := a0) (v := v) (L := [12, 24]) 67 24 (by kernel_rfl) (by rw [hsz]; omega)).trans d24
    refine ⟨Reg.wanted_none rfl, ?_⟩
    have eC : ∀ x, (Reg.gfr (Reg.opsOf Try.f3 5) a0 v [12, 24]).eval (.const x) = x := fun _ => rfl
    generalize Reg.gfr (Reg.opsOf Try.f3 5) a0 v [12, 24] = G at e55 e67 eC ⊢
    generalize hρ : G.eval = ρ at e55 e67 eC
    have hρ' : G.eval = ρ := hρ
    refine Reg.go_run (Value.bool false) W ?_ ?_
    · rw [hρ']; simp [execOp, go_sem, e55, e67, eC]
    · exact ⟨Below.refl _ _, rfl⟩
  refine Reg.region_all (by kernel_rfl) (lattice5_tfR a b c u l ga gb gc gu gl q s) (by rw [hn, hsz]; kernel_rfl) (lattice5_tf_stable a b c u l ga gb gc gu gl q s) (fun i hi => ?_) (fun v w hb hR => ?_)
  · rw [hn] at hi
    match i, List.mem_range.1 hi with
    | 0, _ => exact h0
    | 1, _ => exact h1
    | 2, _ => exact h2
    | 3, _ => exact h3
    | 4, _ => exact h4
    | 5, _ => exact h5
    | 6, _ => exact h6
    | 7, _ => exact h7
    | 8, _ => exact h8
    | 9, _ => exact h9
    | 10, _ => exact h10
    | 11, _ => exact h11
    | 12, _ => exact h12
    | 13, _ => exact h13
    | 14, _ => exact h14
    | 15, _ => exact h15
    | 16, _ => exact h16
    | 17, _ => exact h17
    | 18, _ => exact h18
    | 19, _ => exact h19
    | 20, _ => exact h20
    | 21, _ => exact h21
    | 22, _ => exact h22
    | 23, _ => exact h23
    | 24, _ => exact h24
    | 25, _ => exact h25
    | (_ + 26), h => omega
  · rw [hn] at hR ⊢
    have v0 : v 0 = (Value.agg (vC a)) := hR 0 (by decide)
    have v1 : v 1 = (Value.agg (vC c)) := hR 1 (by decide)
    have v2 : v 2 = (Value.bool true) := hR 2 (by decide)
    have v3 : v 3 = (Value.bool true) := hR 3 (by decide)
    have v4 : v 4 = (Value.agg (vC b)) := hR 4 (by decide)
    have v5 : v 5 = (Value.agg (vC c)) := hR 5 (by decide)
    have v6 : v 6 = (Value.bool q) := hR 6 (by decide)
    have v7 : v 7 = (Value.bool q) := hR 7 (by decide)
    have v8 : v 8 = (Value.agg (vC u)) := hR 8 (by decide)
    have v9 : v 9 = (Value.agg (vC c)) := hR 9 (by decide)
    have v10 : v 10 = (Value.bool q) := hR 10 (by decide)
    have v11 : v 11 = (Value.bool false) := hR 11 (by decide)
    have v12 : v 12 = (Value.bool false) := hR 12 (by decide)
    have v13 : v 13 = (Value.agg (vC c)) := hR 13 (by decide)
    have v14 : v 14 = (Value.agg (vC a)) := hR 14 (by decide)
    have v15 : v 15 = (Value.bool false) := hR 15 (by decide)
    have v16 : v 16 = (Value.bool false) := hR 16 (by decide)
    have v17 : v 17 = undef := hR 17 (by decide)
    have v18 : v 18 = undef := hR 18 (by decide)
    have v19 : v 19 = undef := hR 19 (by decide)
    have v20 : v 20 = (Value.bool false) := hR 20 (by decide)
    have v21 : v 21 = (Value.agg (vC c)) := hR 21 (by decide)
    have v22 : v 22 = (Value.agg (vC l)) := hR 22 (by decide)
    have v23 : v 23 = (Value.bool false) := hR 23 (by decide)
    have v24 : v 24 = (Value.bool false) := hR 24 (by decide)
    have v25 : v 25 = (Value.bool false) := hR 25 (by decide)
    rw [hfin v, v0, v1, v2, v3, v4, v5, v6, v7, v8, v9, v10, v11, v12, v13, v14, v15, v16, v17, v18, v19, v20, v21, v22, v23, v24, v25]
    exact hend w  hb 
def lattice5_ftR (a b c u l : List Nat) (ga gb gc gu gl : Nat) (q s : Bool) : Nat → Value → World → Prop
  | 0 => fun x_ _ => x_ = (Value.agg (vC a))
  | 1 => fun x_ _ => x_ = (Value.agg (vC c))
  | 2 => fun x_ _ => x_ = (Value.bool false)
  | 3 => fun x_ _ => x_ = (Value.bool false)
  | 4 => fun x_ _ => x_ = undef
  | 5 => fun x_ _ => x_ = undef
  | 6 => fun x_ _ => x_ = undef
  | 7 => fun x_ _ => x_ = (Value.bool false)
  | 8 => fun x_ _ => x_ = (Value.agg (vC u))
  | 9 => fun x_ _ => x_ = (Value.agg (vC c))
  | 10 => fun x_ _ => x_ = (Value.bool false)
  | 11 => fun x_ _ => x_ = (Value.bool false)
  | 12 => fun x_ _ => x_ = (Value.bool false)
  | 13 => fun x_ _ => x_ = (Value.agg (vC c))
  | 14 => fun x_ _ => x_ = (Value.agg (vC a))
  | 15 => fun x_ _ => x_ = (Value.bool true)
  | 16 => fun x_ _ => x_ = (Value.bool true)
  | 17 => fun x_ _ => x_ = (Value.agg (vC c))
  | 18 => fun x_ _ => x_ = (Value.agg (vC b))
  | 19 => fun x_ _ => x_ = (Value.bool s)
  | 20 => fun x_ _ => x_ = (Value.bool s)
  | 21 => fun x_ _ => x_ = (Value.agg (vC c))
  | 22 => fun x_ _ => x_ = (Value.agg (vC l))
  | 23 => fun x_ _ => x_ = (Value.bool s)
  | 24 => fun x_ _ => x_ = (Value.bool false)
  | 25 => fun x_ _ => x_ = (Value.bool false)
  | _ => fun _ _ => True
theorem lattice5_ft_stable (a b c u l : List Nat) (ga gb gc gu gl : Nat) (q s : Bool) : ∀ i_ u_ w_ w_', (lattice5_ftR a b c u l ga gb gc gu gl q s) i_ u_ w_ → Below w_.heap.size w_ w_' → (lattice5_ftR a b c u l ga gb gc gu gl q s) i_ u_ w_' := fun i_ u_ w_ w_' h_ hb_ => by
  match i_, h_ with
  | 0, h_ => exact h_
  | 1, h_ => exact h_
  | 2, h_ => exact h_
  | 3, h_ => exact h_
  | 4, h_ => exact h_
  | 5, h_ => exact h_
  | 6, h_ => exact h_
  | 7, h_ => exact h_
  | 8, h_ => exact h_
  | 9, h_ => exact h_
  | 10, h_ => exact h_
  | 11, h_ => exact h_
  | 12, h_ => exact h_
  | 13, h_ => exact h_
  | 14, h_ => exact h_
  | 15, h_ => exact h_
  | 16, h_ => exact h_
  | 17, h_ => exact h_
  | 18, h_ => exact h_
  | 19, h_ => exact h_
  | 20, h_ => exact h_
  | 21, h_ => exact h_
  | 22, h_ => exact h_
  | 23, h_ => exact h_
  | 24, h_ => exact h_
  | 25, h_ => exact h_
  | (_ + 26), _ => trivial
set_option maxHeartbeats 4000000 in
set_option maxRecDepth 20000 in
theorem lattice5_ft (a b c u l : List Nat) (ga gb gc gu gl : Nat) (q s : Bool) (w0 : World) {s0 s1 s2 s6 s7 s10 s11 s12 s13 s14 s15 s16 s17 s18 s19 s20 s21 s22 s23 s24 s25 s26 s27 s28 s29 s30 s31 s32 s33 s34 s35 s36 s37 s38 s39 s40 s41 s42 s43 s44 s45 s46 s47 s48 s49 s50 s51 s52 s53 s54 s55 s56 s57 s58 s59 s60 s61 s62 s63 s64 s65 s66 s67 s68 s69 s70 s71 s72 s73 s74 s75 s76 s77 s78 s79 s80 s81 s82 s83 s84 s85 s86 s87 s88 s89 s90 s91 s92 s93 s94 s95 s96 s97 s98 s99 s100 s101 s102 s103 s104 s105 s106 s107 s108 s109 s110 s111 s112 s113 s114 s115 s116 s117 s118 s119 s120 s121 s122 s123 s124 s125 s126 s127 s128 s129 s130 s131 s132 s133 s134 s135 s136 s137 s138 s139 s140 : Value}
    (ha : a.length = 16) (hb' : b.length = 16) (hc : c.length = 16) (hu : u.length = 16) (hl : l.length = 16)
    (f1 : decide (maxV a c = c) = false) (f2 : decide (maxV b c = c) = q) (f3 : decide (maxV u c = c) = false) (f4 : decide (maxV c a = a) = true) (f5 : decide (maxV c b = b) = s) (f6 : decide (maxV c l = l) = s)
    (M_ga : ∀ W, Below w0.heap.size w0 W → W.heap[ga]? = some (.cells (vC a) 24 (0, 0)))
    (M_gb : ∀ W, Below w0.heap.size w0 W → W.heap[gb]? = some (.cells (vC b) 24 (0, 0)))
    (M_gc : ∀ W, Below w0.heap.size w0 W → W.heap[gc]? = some (.cells (vC c) 24 (0, 0)))
    (M_gu : ∀ W, Below w0.heap.size w0 W → W.heap[gu]? = some (.cells (vC u) 24 (0, 0)))
    (M_gl : ∀ W, Below w0.heap.size w0 W → W.heap[gl]? = some (.cells (vC l) 24 (0, 0)))
    {Q : Exit → Act → World → Prop}
    (hend : ∀ (w : World), Below w0.heap.size w0 w → Q .normal { tmps := #[s0, s1, s2, (Value.pointer (some ⟨ga, 0, none⟩)), (Value.pointer (some ⟨gb, 0, none⟩)), (Value.pointer (some ⟨gc, 0, none⟩)), s6, s7, (Value.pointer (some ⟨gu, 0, none⟩)), (Value.pointer (some ⟨gl, 0, none⟩)), s10, s11, s12, s13, s14, s15, s16, s17, s18, s19, s20, s21, s22, s23, s24, s25, s26, s27, s28, s29, s30, s31, s32, s33, s34, s35, s36, s37, s38, s39, s40, s41, s42, (Value.agg (vC a)), (Value.agg (vC c)), (Value.bool false), (Value.bool false), undef, undef, undef, (Value.bool false), (Value.agg (vC u)), (Value.agg (vC c)), (Value.bool false), (Value.bool false), (Value.bool false), (Value.agg (vC c)), (Value.agg (vC a)), (Value.bool true), (Value.bool true), (Value.agg (vC c)), (Value.agg (vC b)), (Value.bool s), (Value.bool s), (Value.agg (vC c)), (Value.agg (vC l)), (Value.bool s), (Value.bool false), (Value.bool false), s69, s70, s71, s72, s73, s74, s75, s76, s77, s78, s79, s80, s81, s82, s83, s84, s85, s86, s87, s88, s89, s90, s91, s92, s93, s94, s95, s96, s97, s98, s99, s100, s101, s102, s103, s104, s105, s106, s107, s108, s109, s110, s111, s112, s113, s114, s115, s116, s117, s118, s119, s120, s121, s122, s123, s124, s125, s126, s127, s128, s129, s130, s131, s132, s133, s134, s135, s136, s137, s138, s139, s140], defers := [] } w) :
    (Code.region 5 (Reg.opsOf Try.f3 5) true).wp Try.prog Q { tmps := #[s0, s1, s2, (Value.pointer (some ⟨ga, 0, none⟩)), (Value.pointer (some ⟨gb, 0, none⟩)), (Value.pointer (some ⟨gc, 0, none⟩)), s6, s7, (Value.pointer (some ⟨gu, 0, none⟩)), (Value.pointer (some ⟨gl, 0, none⟩)), s10, s11, s12, s13, s14, s15, s16, s17, s18, s19, s20, s21, s22, s23, s24, s25, s26, s27, s28, s29, s30, s31, s32, s33, s34, s35, s36, s37, s38, s39, s40, s41, s42, s43, s44, s45, s46, s47, s48, s49, s50, s51, s52, s53, s54, s55, s56, s57, s58, s59, s60, s61, s62, s63, s64, s65, s66, s67, s68, s69, s70, s71, s72, s73, s74, s75, s76, s77, s78, s79, s80, s81, s82, s83, s84, s85, s86, s87, s88, s89, s90, s91, s92, s93, s94, s95, s96, s97, s98, s99, s100, s101, s102, s103, s104, s105, s106, s107, s108, s109, s110, s111, s112, s113, s114, s115, s116, s117, s118, s119, s120, s121, s122, s123, s124, s125, s126, s127, s128, s129, s130, s131, s132, s133, s134, s135, s136, s137, s138, s139, s140], defers := [] } w0 := by
  obtain ⟨a0, ha0⟩ : ∃ a0 : Act, a0 = { tmps := #[s0, s1, s2, (Value.pointer (some ⟨ga, 0, none⟩)), (Value.pointer (some ⟨gb, 0, none⟩)), (Value.pointer (some ⟨gc, 0, none⟩)), s6, s7, (Value.pointer (some ⟨gu, 0, none⟩)), (Value.pointer (some ⟨gl, 0, none⟩)), s10, s11, s12, s13, s14, s15, s16, s17, s18, s19, s20, s21, s22, s23, s24, s25, s26, s27, s28, s29, s30, s31, s32, s33, s34, s35, s36, s37, s38, s39, s40, s41, s42, s43, s44, s45, s46, s47, s48, s49, s50, s51, s52, s53, s54, s55, s56, s57, s58, s59, s60, s61, s62, s63, s64, s65, s66, s67, s68, s69, s70, s71, s72, s73, s74, s75, s76, s77, s78, s79, s80, s81, s82, s83, s84, s85, s86, s87, s88, s89, s90, s91, s92, s93, s94, s95, s96, s97, s98, s99, s100, s101, s102, s103, s104, s105, s106, s107, s108, s109, s110, s111, s112, s113, s114, s115, s116, s117, s118, s119, s120, s121, s122, s123, s124, s125, s126, s127, s128, s129, s130, s131, s132, s133, s134, s135, s136, s137, s138, s139, s140], defers := [] } := ⟨_, rfl⟩
  have hfin : ∀ v : Nat → Value, Reg.gfr (Reg.opsOf Try.f3 5) a0 v (List.range 26) = { tmps := #[s0, s1, s2, (Value.pointer (some ⟨ga, 0, none⟩)), (Value.pointer (some ⟨gb, 0, none⟩)), (Value.pointer (some ⟨gc, 0, none⟩)), s6, s7, (Value.pointer (some ⟨gu, 0, none⟩)), (Value.pointer (some ⟨gl, 0, none⟩)), s10, s11, s12, s13, s14, s15, s16, s17, s18, s19, s20, s21, s22, s23, s24, s25, s26, s27, s28, s29, s30, s31, s32, s33, s34, s35, s36, s37, s38, s39, s40, s41, s42, v 0, v 1, v 2, v 3, v 4, v 5, v 6, v 7, v 8, v 9, v 10, v 11, v 12, v 13, v 14, v 15, v 16, v 17, v 18, v 19, v 20, v 21, v 22, v 23, v 24, v 25, s69, s70, s71, s72, s73, s74, s75, s76, s77, s78, s79, s80, s81, s82, s83, s84, s85, s86, s87, s88, s89, s90, s91, s92, s93, s94, s95, s96, s97, s98, s99, s100, s101, s102, s103, s104, s105, s106, s107, s108, s109, s110, s111, s112, s113, s114, s115, s116, s117, s118, s119, s120, s121, s122, s123, s124, s125, s126, s127, s128, s129, s130, s131, s132, s133, s134, s135, s136, s137, s138, s139, s140], defers := [] } := fun v => by rw [ha0]; kernel_rfl
  rw [← ha0]
  have i3 : a0.eval (.tmp 3) = (Value.pointer (some ⟨ga, 0, none⟩)) := by rw [ha0]; rfl
  have i4 : a0.eval (.tmp 4) = (Value.pointer (some ⟨gb, 0, none⟩)) := by rw [ha0]; rfl
  have i5 : a0.eval (.tmp 5) = (Value.pointer (some ⟨gc, 0, none⟩)) := by rw [ha0]; rfl
  have i8 : a0.eval (.tmp 8) = (Value.pointer (some ⟨gu, 0, none⟩)) := by rw [ha0]; rfl
  have i9 : a0.eval (.tmp 9) = (Value.pointer (some ⟨gl, 0, none⟩)) := by rw [ha0]; rfl
  have hsz : a0.tmps.size = 141 := by rw [ha0]; rfl
  clear ha0
  have hn : (Reg.opsOf Try.f3 5).size = 26 := by kernel_rfl
  have h0 : Reg.OpOK Try.prog (Reg.opsOf Try.f3 5) a0 w0 (lattice5_ftR a b c u l ga gb gc gu gl q s) (fun _ _ _ _ => True) 0 := by
    refine Reg.op_ok2 (fun af => { dst := some 43, op := Op.load 24 (Operand.tmp 3), type := 24, pos := "outright.go:56", after := af, guard := none }) #[] (by kernel_rfl) [] (by kernel_rfl) fun af v W hb hd => ?_
    have e3 := (Reg.gfr_eval0 (ops := (Reg.opsOf Try.f3 5)) (a0 := a0) (v := v) (L := []) 3 (by kernel_rfl)).trans i3
    refine ⟨Reg.wanted_none rfl, ?_⟩
    generalize Reg.gfr (Reg.opsOf Try.f3 5) a0 v [] = G at e3 ⊢
    generalize hρ : G.eval = ρ at e3
    have hρ' : G.eval = ρ := hρ
    exact fun K hK => wp_load_row 24 (.tmp 3) rfl ga (by rw [hρ']; exact e3) 24 (vC a) (0, 0) _ (M_ga W hb) Try.underlying24 rfl (vec_size ha) (hK _ _ ⟨Below.refl _ _, rfl⟩)
  have h1 : Reg.OpOK Try.prog (Reg.opsOf Try.f3 5) a0 w0 (lattice5_ftR a b c u l ga gb gc gu gl q s) (fun _ _ _ _ => True) 1 := by
    refine Reg.op_ok2 (fun af => { dst := some 44, op := Op.load 24 (Operand.tmp 5), type := 24, pos := "outright.go:56", after := af, guard := none }) #[] (by kernel_rfl) [] (by kernel_rfl) fun af v W hb hd => ?_
    have e5 := (Reg.gfr_eval0 (ops := (Reg.opsOf Try.f3 5)) (a0 := a0) (v := v) (L := []) 5 (by kernel_rfl)).trans i5
    refine ⟨Reg.wanted_none rfl, ?_⟩
    generalize Reg.gfr (Reg.opsOf Try.f3 5) a0 v [] = G at e5 ⊢
    generalize hρ : G.eval = ρ at e5
    have hρ' : G.eval = ρ := hρ
    exact fun K hK => wp_load_row 24 (.tmp 5) rfl gc (by rw [hρ']; exact e5) 24 (vC c) (0, 0) _ (M_gc W hb) Try.underlying24 rfl (vec_size hc) (hK _ _ ⟨Below.refl _ _, rfl⟩)
  have h2 : Reg.OpOK Try.prog (Reg.opsOf Try.f3 5) a0 w0 (lattice5_ftR a b c u l ga gb gc gu gl q s) (fun _ _ _ _ => True) 2 := by
    refine Reg.op_ok2 (fun af => { dst := some 45, op := Op.call { callee := Callee.value (Operand.func 13), args := #[Operand.tmp 43, Operand.tmp 44], argTypes := #[24, 24] }, type := 4, pos := "outright.go:56", after := af, guard := none }) #[{ on := 0, ground := Ground.data }, { on := 1, ground := Ground.data }] (by kernel_rfl) [0, 1] (by kernel_rfl) fun af v W hb hd => ?_
    have d0 : v 0 = (Value.agg (vC a)) := hd 0 (by decide)
    have d1 : v 1 = (Value.agg (vC c)) := hd 1 (by decide)
    have e43 := (Reg.gfr_eval (ops := (Reg.opsOf Try.f3 5)) (a0 := a0) (v := v) (L := [0, 1]) 43 0 (by kernel_rfl) (by rw [hsz]; omega)).trans d0
    have e44 := (Reg.gfr_eval (ops := (Reg.opsOf Try.f3 5)) (a0 := a0) (v := v) (L := [0, 1]) 44 1 (by kernel_rfl) (by rw [hsz]; omega)).trans d1
    refine ⟨Reg.wanted_none rfl, ?_⟩
    have eF : ∀ f, (Reg.gfr (Reg.opsOf Try.f3 5) a0 v [0, 1]).eval (.func f) = .func (.func f) #[] #[] := fun _ => rfl
    generalize Reg.gfr (Reg.opsOf Try.f3 5) a0 v [0, 1] = G at e43 e44 eF ⊢
    generalize hρ : G.eval = ρ at e43 e44 eF
    have hρ' : G.eval = ρ := hρ
    refine Reg.go_call 13 #[(Value.agg (vC a)), (Value.agg (vC c))] (by rw [hρ']; simp [execOp, go_sem, e43, e44, eF]) ((atmost_any a c ha hc W).mono fun e w' he => ?_)
    obtain ⟨rfl, hbb⟩ := he
    exact ⟨_, rfl, hbb, (show _ = _ from by rw [f1])⟩
  have h3 : Reg.OpOK Try.prog (Reg.opsOf Try.f3 5) a0 w0 (lattice5_ftR a b c u l ga gb gc gu gl q s) (fun _ _ _ _ => True) 3 := by
    refine Reg.op_ok2 (fun af => { dst := some 46, op := Op.move (Operand.tmp 45), type := 4, pos := "outright.go:56", after := af, guard := none }) #[{ on := 2, ground := Ground.data }, { on := 2, ground := Ground.chain }] (by kernel_rfl) [2, 2] (by kernel_rfl) fun af v W hb hd => ?_
    have d2 : v 2 = (Value.bool false) := hd 2 (by decide)
    have e45 := (Reg.gfr_eval (ops := (Reg.opsOf Try.f3 5)) (a0 := a0) (v := v) (L := [2, 2]) 45 2 (by kernel_rfl) (by rw [hsz]; omega)).trans d2
    refine ⟨Reg.wanted_none rfl, ?_⟩
    generalize Reg.gfr (Reg.opsOf Try.f3 5) a0 v [2, 2] = G at e45 ⊢
    generalize hρ : G.eval = ρ at e45
    have hρ' : G.eval = ρ := hρ
    refine Reg.go_run (Value.bool false) W ?_ ?_
    · rw [hρ']; simp [execOp, go_sem, e45]
    · exact ⟨Below.refl _ _, rfl⟩
  have h4 : Reg.OpOK Try.prog (Reg.opsOf Try.f3 5) a0 w0 (lattice5_ftR a b c u l ga gb gc gu gl q s) (fun _ _ _ _ => True) 4 := by
    refine Reg.op_no2 (fun af => { dst := some 47, op := Op.load 24 (Operand.tmp 4), type := 24, pos := "outright.go:56", after := af, guard := some (3, true) }) #[{ on := 3, ground := Ground.guard }] (by kernel_rfl) [3] (by kernel_rfl) fun af v W hb hd => ?_
    have d3 : v 3 = (Value.bool false) := hd 3 (by decide)
    have e46 := (Reg.gfr_eval (ops := (Reg.opsOf Try.f3 5)) (a0 := a0) (v := v) (L := [3]) 46 3 (by kernel_rfl) (by rw [hsz]; omega)).trans d3
    exact ⟨Reg.wanted_not rfl (by kernel_rfl) e46, rfl, fun _ _ _ _ => ⟨trivial, trivial⟩⟩
  have h5 : Reg.OpOK Try.prog (Reg.opsOf Try.f3 5) a0 w0 (lattice5_ftR a b c u l ga gb gc gu gl q s) (fun _ _ _ _ => True) 5 := by
    refine Reg.op_no2 (fun af => { dst := some 48, op := Op.load 24 (Operand.tmp 5), type := 24, pos := "outright.go:56", after := af, guard := some (3, true) }) #[{ on := 3, ground := Ground.guard }] (by kernel_rfl) [3] (by kernel_rfl) fun af v W hb hd => ?_
    have d3 : v 3 = (Value.bool false) := hd 3 (by decide)
    have e46 := (Reg.gfr_eval (ops := (Reg.opsOf Try.f3 5)) (a0 := a0) (v := v) (L := [3]) 46 3 (by kernel_rfl) (by rw [hsz]; omega)).trans d3
    exact ⟨Reg.wanted_not rfl (by kernel_rfl) e46, rfl, fun _ _ _ _ => ⟨trivial, trivial⟩⟩
  have h6 : Reg.OpOK Try.prog (Reg.opsOf Try.f3 5) a0 w0 (lattice5_ftR a b c u l ga gb gc gu gl q s) (fun _ _ _ _ => True) 6 := by
    refine Reg.op_no2 (fun af => { dst := some 49, op := Op.call { callee := Callee.value (Operand.func 13), args := #[Operand.tmp 47, Operand.tmp 48], argTypes := #[24, 24] }, type := 4, pos := "outright.go:56", after := af, guard := some (3, true) }) #[{ on := 4, ground := Ground.data }, { on := 5, ground := Ground.data }, { on := 3, ground := Ground.chain }, { on := 3, ground := Ground.guard }] (by kernel_rfl) [4, 5, 3, 3] (by kernel_rfl) fun af v W hb hd => ?_
    have d3 : v 3 = (Value.bool false) := hd 3 (by decide)
    have e46 := (Reg.gfr_eval (ops := (Reg.opsOf Try.f3 5)) (a0 := a0) (v := v) (L := [4, 5, 3, 3]) 46 3 (by kernel_rfl) (by rw [hsz]; omega)).trans d3
    exact ⟨Reg.wanted_not rfl (by kernel_rfl) e46, rfl, fun _ _ _ _ => ⟨trivial, trivial⟩⟩
  have h7 : Reg.OpOK Try.prog (Reg.opsOf Try.f3 5) a0 w0 (lattice5_ftR a b c u l ga gb gc gu gl q s) (fun _ _ _ _ => True) 7 := by
    refine Reg.op_ok2 (fun af => { dst := some 50, op := Op.pick (Operand.tmp 46) (Operand.tmp 49) (Operand.const (Value.bool false)), type := 4, pos := "outright.go:56", after := af, guard := none }) #[{ on := 3, ground := Ground.data }, { on := 6, ground := Ground.data }] (by kernel_rfl) [3, 6] (by kernel_rfl) fun af v W hb hd => ?_
    have d3 : v 3 = (Value.bool false) := hd 3 (by decide)
    have d6 : v 6 = undef := hd 6 (by decide)
    have e46 := (Reg.gfr_eval (ops := (Reg.opsOf Try.f3 5)) (a0 := a0) (v := v) (L := [3, 6]) 46 3 (by kernel_rfl) (by rw [hsz]; omega)).trans d3
    have e49 := (Reg.gfr_eval (ops := (Reg.opsOf Try.f3 5)) (a0 := a0) (v := v) (L := [3, 6]) 49 6 (by kernel_rfl) (by rw [hsz]; omega)).trans d6
    refine ⟨Reg.wanted_none rfl, ?_⟩
    have eC : ∀ x, (Reg.gfr (Reg.opsOf Try.f3 5) a0 v [3, 6]).eval (.const x) = x := fun _ => rfl
    generalize Reg.gfr (Reg.opsOf Try.f3 5) a0 v [3, 6] = G at e46 e49 eC ⊢
    generalize hρ : G.eval = ρ at e46 e49 eC
    have hρ' : G.eval = ρ := hρ
    refine Reg.go_run (Value.bool false) W ?_ ?_
    · rw [hρ']; simp [execOp, go_sem, e46, e49, eC]
    · exact ⟨Below.refl _ _, rfl⟩
  have h8 : Reg.OpOK Try.prog (Reg.opsOf Try.f3 5) a0 w0 (lattice5_ftR a b c u l ga gb gc gu gl q s) (fun _ _ _ _ => True) 8 := by
    refine Reg.op_ok2 (fun af => { dst := some 51, op := Op.load 24 (Operand.tmp 8), type := 24, pos := "outright.go:56", after := af, guard := none }) #[] (by kernel_rfl) [] (by kernel_rfl) fun af v W hb hd => ?_
    have e8 := (Reg.gfr_eval0 (ops := (Reg.opsOf Try.f3 5)) (a0 := a0) (v := v) (L := []) 8 (by kernel_rfl)).trans i8
    refine ⟨Reg.wanted_none rfl, ?_⟩
    generalize Reg.gfr (Reg.opsOf Try.f3 5) a0 v [] = G at e8 ⊢
    generalize hρ : G.eval = ρ at e8
    have hρ' : G.eval = ρ := hρ
    exact fun K hK => wp_load_row 24 (.tmp 8) rfl gu (by rw [hρ']; exact e8) 24 (vC u) (0, 0) _ (M_gu W hb) Try.underlying24 rfl (vec_size hu) (hK _ _ ⟨Below.refl _ _, rfl⟩)
  have h9 : Reg.OpOK Try.prog (Reg.opsOf Try.f3 5) a0 w0 (lattice5_ftR a b c u l ga gb gc gu gl q s) (fun _ _ _ _ => True) 9 := by
    refine Reg.op_ok2 (fun af => { dst := some 52, op := Op.load 24 (Operand.tmp 5), type := 24, pos := "outright.go:56", after := af, guard := none }) #[] (by kernel_rfl) [] (by kernel_rfl) fun af v W hb hd => ?_
    have e5 := (Reg.gfr_eval0 (ops := (Reg.opsOf Try.f3 5)) (a0 := a0) (v := v) (L := []) 5 (by kernel_rfl)).trans i5
    refine ⟨Reg.wanted_none rfl, ?_⟩
    generalize Reg.gfr (Reg.opsOf Try.f3 5) a0 v [] = G at e5 ⊢
    generalize hρ : G.eval = ρ at e5
    have hρ' : G.eval = ρ := hρ
    exact fun K hK => wp_load_row 24 (.tmp 5) rfl gc (by rw [hρ']; exact e5) 24 (vC c) (0, 0) _ (M_gc W hb) Try.underlying24 rfl (vec_size hc) (hK _ _ ⟨Below.refl _ _, rfl⟩)
  have h10 : Reg.OpOK Try.prog (Reg.opsOf Try.f3 5) a0 w0 (lattice5_ftR a b c u l ga gb gc gu gl q s) (fun _ _ _ _ => True) 10 := by
    refine Reg.op_ok2 (fun af => { dst := some 53, op := Op.call { callee := Callee.value (Operand.func 13), args := #[Operand.tmp 51, Operand.tmp 52], argTypes := #[24, 24] }, type := 4, pos := "outright.go:56", after := af, guard := none }) #[{ on := 8, ground := Ground.data }, { on := 9, ground := Ground.data }, { on := 6, ground := Ground.chain }] (by kernel_rfl) [8, 9, 6] (by kernel_rfl) fun af v W hb hd => ?_
    have d8 : v 8 = (Value.agg (vC u)) := hd 8 (by decide)
    have d9 : v 9 = (Value.agg (vC c)) := hd 9 (by decide)
    have e51 := (Reg.gfr_eval (ops := (Reg.opsOf Try.f3 5)) (a0 := a0) (v := v) (L := [8, 9, 6]) 51 8 (by kernel_rfl) (by rw [hsz]; omega)).trans d8
    have e52 := (Reg.gfr_eval (ops := (Reg.opsOf Try.f3 5)) (a0 := a0) (v := v) (L := [8, 9, 6]) 52 9 (by kernel_rfl) (by rw [hsz]; omega)).trans d9
    refine ⟨Reg.wanted_none rfl, ?_⟩
    have eF : ∀ f, (Reg.gfr (Reg.opsOf Try.f3 5) a0 v [8, 9, 6]).eval (.func f) = .func (.func f) #[] #[] := fun _ => rfl
    generalize Reg.gfr (Reg.opsOf Try.f3 5) a0 v [8, 9, 6] = G at e51 e52 eF ⊢
    generalize hρ : G.eval = ρ at e51 e52 eF
    have hρ' : G.eval = ρ := hρ
    refine Reg.go_call 13 #[(Value.agg (vC u)), (Value.agg (vC c))] (by rw [hρ']; simp [execOp, go_sem, e51, e52, eF]) ((atmost_any u c hu hc W).mono fun e w' he => ?_)
    obtain ⟨rfl, hbb⟩ := he
    exact ⟨_, rfl, hbb, (show _ = _ from by rw [f3])⟩
  have h11 : Reg.OpOK Try.prog (Reg.opsOf Try.f3 5) a0 w0 (lattice5_ftR a b c u l ga gb gc gu gl q s) (fun _ _ _ _ => True) 11 := by
    refine Reg.op_ok2 (fun af => { dst := some 54, op := Op.binOp BinOp.neq 4 (Operand.tmp 50) (Operand.tmp 53) 4, type := 4, pos := "outright.go:56", after := af, guard := none }) #[{ on := 7, ground := Ground.data }, { on := 10, ground := Ground.data }] (by kernel_rfl) [7, 10] (by kernel_rfl) fun af v W hb hd => ?_
    have d7 : v 7 = (Value.bool false) := hd 7 (by decide)
    have d10 : v 10 = (Value.bool false) := hd 10 (by decide)
    have e50 := (Reg.gfr_eval (ops := (Reg.opsOf Try.f3 5)) (a0 := a0) (v := v) (L := [7, 10]) 50 7 (by kernel_rfl) (by rw [hsz]; omega)).trans d7
    have e53 := (Reg.gfr_eval (ops := (Reg.opsOf Try.f3 5)) (a0 := a0) (v := v) (L := [7, 10]) 53 10 (by kernel_rfl) (by rw [hsz]; omega)).trans d10
    refine ⟨Reg.wanted_none rfl, ?_⟩
    generalize Reg.gfr (Reg.opsOf Try.f3 5) a0 v [7, 10] = G at e50 e53 ⊢
    generalize hρ : G.eval = ρ at e50 e53
    have hρ' : G.eval = ρ := hρ
    refine Reg.go_run (Value.bool false) W ?_ ?_
    · rw [hρ']; simp [execOp, go_sem, e50, e53]
    · exact ⟨Below.refl _ _, rfl⟩
  have h12 : Reg.OpOK Try.prog (Reg.opsOf Try.f3 5) a0 w0 (lattice5_ftR a b c u l ga gb gc gu gl q s) (fun _ _ _ _ => True) 12 := by
    refine Reg.op_ok2 (fun af => { dst := some 55, op := Op.move (Operand.tmp 54), type := 4, pos := "outright.go:56", after := af, guard := none }) #[{ on := 11, ground := Ground.data }, { on := 10, ground := Ground.chain }] (by kernel_rfl) [11, 10] (by kernel_rfl) fun af v W hb hd => ?_
    have d11 : v 11 = (Value.bool false) := hd 11 (by decide)
    have e54 := (Reg.gfr_eval (ops := (Reg.opsOf Try.f3 5)) (a0 := a0) (v := v) (L := [11, 10]) 54 11 (by kernel_rfl) (by rw [hsz]; omega)).trans d11
    refine ⟨Reg.wanted_none rfl, ?_⟩
    generalize Reg.gfr (Reg.opsOf Try.f3 5) a0 v [11, 10] = G at e54 ⊢
    generalize hρ : G.eval = ρ at e54
    have hρ' : G.eval = ρ := hρ
    refine Reg.go_run (Value.bool false) W ?_ ?_
    · rw [hρ']; simp [execOp, go_sem, e54]
    · exact ⟨Below.refl _ _, rfl⟩
  have h13 : Reg.OpOK Try.prog (Reg.opsOf Try.f3 5) a0 w0 (lattice5_ftR a b c u l ga gb gc gu gl q s) (fun _ _ _ _ => True) 13 := by
    refine Reg.op_ok2 (fun af => { dst := some 56, op := Op.load 24 (Operand.tmp 5), type := 24, pos := "outright.go:56", after := af, guard := some (12, false) }) #[{ on := 12, ground := Ground.guard }] (by kernel_rfl) [12] (by kernel_rfl) fun af v W hb hd => ?_
    have d12 : v 12 = (Value.bool false) := hd 12 (by decide)
    have e5 := (Reg.gfr_eval0 (ops := (Reg.opsOf Try.f3 5)) (a0 := a0) (v := v) (L := [12]) 5 (by kernel_rfl)).trans i5
    have e55 := (Reg.gfr_eval (ops := (Reg.opsOf Try.f3 5)) (a0 := a0) (v := v) (L := [12]) 55 12 (by kernel_rfl) (by rw [hsz]; omega)).trans d12
    refine ⟨Reg.wanted_of rfl (by kernel_rfl) e55, ?_⟩
    generalize Reg.gfr (Reg.opsOf Try.f3 5) a0 v [12] = G at e5 ⊢
    generalize hρ : G.eval = ρ at e5
    have hρ' : G.eval = ρ := hρ
    exact fun K hK => wp_load_row 24 (.tmp 5) rfl gc (by rw [hρ']; exact e5) 24 (vC c) (0, 0) _ (M_gc W hb) Try.underlying24 rfl (vec_size hc) (hK _ _ ⟨Below.refl _ _, rfl⟩)
  have h14 : Reg.OpOK Try.prog (Reg.opsOf Try.f3 5) a0 w0 (lattice5_ftR a b c u l ga gb gc gu gl q s) (fun _ _ _ _ => True) 14 := by
    refine Reg.op_ok2 (fun af => { dst := some 57, op := Op.load 24 (Operand.tmp 3), type := 24, pos := "outright.go:56", after := af, guard := some (12, false) }) #[{ on := 12, ground := Ground.guard }] (by kernel_rfl) [12] (by kernel_rfl) fun af v W hb hd => ?_
    have d12 : v 12 = (Value.bool false) := hd 12 (by decide)
    have e3 := (Reg.gfr_eval0 (ops := (Reg.opsOf Try.f3 5)) (a0 := a0) (v := v) (L := [12]) 3 (by kernel_rfl)).trans i3
    have e55 := (Reg.gfr_eval (ops := (Reg.opsOf Try.f3 5)) (a0 := a0) (v := v) (L := [12]) 55 12 (by kernel_rfl) (by rw [hsz]; omega)).trans d12
    refine ⟨Reg.wanted_of rfl (by kernel_rfl) e55, ?_⟩
    generalize Reg.gfr (Reg.opsOf Try.f3 5) a0 v [12] = G at e3 ⊢
    generalize hρ : G.eval = ρ at e3
    have hρ' : G.eval = ρ := hρ
    exact fun K hK => wp_load_row 24 (.tmp 3) rfl ga (by rw [hρ']; exact e3) 24 (vC a) (0, 0) _ (M_ga W hb) Try.underlying24 rfl (vec_size ha) (hK _ _ ⟨Below.refl _ _, rfl⟩)
  have h15 : Reg.OpOK Try.prog (Reg.opsOf Try.f3 5) a0 w0 (lattice5_ftR a b c u l ga gb gc gu gl q s) (fun _ _ _ _ => True) 15 := by
    refine Reg.op_ok2 (fun af => { dst := some 58, op := Op.call { callee := Callee.value (Operand.func 13), args := #[Operand.tmp 56, Operand.tmp 57], argTypes := #[24, 24] }, type := 4, pos := "outright.go:56", after := af, guard := some (12, false) }) #[{ on := 13, ground := Ground.data }, { on := 14, ground := Ground.data }, { on := 12, ground := Ground.chain }, { on := 12, ground := Ground.guard }] (by kernel_rfl) [13, 14, 12, 12] (by kernel_rfl) fun af v W hb hd => ?_
    have d12 : v 12 = (Value.bool false) := hd 12 (by decide)
    have d13 : v 13 = (Value.agg (vC c)) := hd 13 (by decide)
    have d14 : v 14 = (Value.agg (vC a)) := hd 14 (by decide)
    have e56 := (Reg.gfr_eval (ops := (Reg.opsOf Try.f3 5)) (a0 := a0) (v := v) (L := [13, 14, 12, 12]) 56 13 (by kernel_rfl) (by rw [hsz]; omega)).trans d13
    have e57 := (Reg.gfr_eval (ops := (Reg.opsOf Try.f3 5)) (a0 := a0) (v := v) (L := [13, 14, 12, 12]) 57 14 (by kernel_rfl) (by rw [hsz]; omega)).trans d14
    have e55 := (Reg.gfr_eval (ops := (Reg.opsOf Try.f3 5)) (a0 := a0) (v := v) (L := [13, 14, 12, 12]) 55 12 (by kernel_rfl) (by rw [hsz]; omega)).trans d12
    refine ⟨Reg.wanted_of rfl (by kernel_rfl) e55, ?_⟩
    have eF : ∀ f, (Reg.gfr (Reg.opsOf Try.f3 5) a0 v [13, 14, 12, 12]).eval (.func f) = .func (.func f) #[] #[] := fun _ => rfl
    generalize Reg.gfr (Reg.opsOf Try.f3 5) a0 v [13, 14, 12, 12] = G at e56 e57 eF ⊢
    generalize hρ : G.eval = ρ at e56 e57 eF
    have hρ' : G.eval = ρ := hρ
    refine Reg.go_call 13 #[(Value.agg (vC c)), (Value.agg (vC a))] (by rw [hρ']; simp [execOp, go_sem, e56, e57, eF]) ((atmost_any c a hc ha W).mono fun e w' he => ?_)
    obtain ⟨rfl, hbb⟩ := he
    exact ⟨_, rfl, hbb, (show _ = _ from by rw [f4])⟩
  have h16 : Reg.OpOK Try.prog (Reg.opsOf Try.f3 5) a0 w0 (lattice5_ftR a b c u l ga gb gc gu gl q s) (fun _ _ _ _ => True) 16 := by
    refine Reg.op_ok2 (fun af => { dst := some 59, op := Op.move (Operand.tmp 58), type := 4, pos := "outright.go:56", after := af, guard := some (12, false) }) #[{ on := 15, ground := Ground.data }, { on := 15, ground := Ground.chain }, { on := 12, ground := Ground.guard }] (by kernel_rfl) [15, 15, 12] (by kernel_rfl) fun af v W hb hd => ?_
    have d12 : v 12 = (Value.bool false) := hd 12 (by decide)
    have d15 : v 15 = (Value.bool true) := hd 15 (by decide)
    have e58 := (Reg.gfr_eval (ops := (Reg.opsOf Try.f3 5)) (a0 := a0) (v := v) (L := [15, 15, 12]) 58 15 (by kernel_rfl) (by rw [hsz]; omega)).trans d15
    have e55 := (Reg.gfr_eval (ops := (Reg.opsOf Try.f3 5)) (a0 := a0) (v := v) (L := [15, 15, 12]) 55 12 (by kernel_rfl) (by rw [hsz]; omega)).trans d12
    refine ⟨Reg.wanted_of rfl (by kernel_rfl) e55, ?_⟩
    generalize Reg.gfr (Reg.opsOf Try.f3 5) a0 v [15, 15, 12] = G at e58 ⊢
    generalize hρ : G.eval = ρ at e58
    have hρ' : G.eval = ρ := hρ
    refine Reg.go_run (Value.bool true) W ?_ ?_
    · rw [hρ']; simp [execOp, go_sem, e58]
    · exact ⟨Below.refl _ _, rfl⟩
  have h17 : Reg.OpOK Try.prog (Reg.opsOf Try.f3 5) a0 w0 (lattice5_ftR a b c u l ga gb gc gu gl q s) (fun _ _ _ _ => True) 17 := by
    refine Reg.op_ok2 (fun af => { dst := some 60, op := Op.load 24 (Operand.tmp 5), type := 24, pos := "outright.go:56", after := af, guard := some (16, true) }) #[{ on := 16, ground := Ground.guard }] (by kernel_rfl) [16] (by kernel_rfl) fun af v W hb hd => ?_
    have d16 : v 16 = (Value.bool true) := hd 16 (by decide)
    have e5 := (Reg.gfr_eval0 (ops := (Reg.opsOf Try.f3 5)) (a0 := a0) (v := v) (L := [16]) 5 (by kernel_rfl)).trans i5
    have e59 := (Reg.gfr_eval (ops := (Reg.opsOf Try.f3 5)) (a0 := a0) (v := v) (L := [16]) 59 16 (by kernel_rfl) (by rw [hsz]; omega)).trans d16
    refine ⟨Reg.wanted_of rfl (by kernel_rfl) e59, ?_⟩
    generalize Reg.gfr (Reg.opsOf Try.f3 5) a0 v [16] = G at e5 ⊢
    generalize hρ : G.eval = ρ at e5
    have hρ' : G.eval = ρ := hρ
    exact fun K hK => wp_load_row 24 (.tmp 5) rfl gc (by rw [hρ']; exact e5) 24 (vC c) (0, 0) _ (M_gc W hb) Try.underlying24 rfl (vec_size hc) (hK _ _ ⟨Below.refl _ _, rfl⟩)
  have h18 : Reg.OpOK Try.prog (Reg.opsOf Try.f3 5) a0 w0 (lattice5_ftR a b c u l ga gb gc gu gl q s) (fun _ _ _ _ => True) 18 := by
    refine Reg.op_ok2 (fun af => { dst := some 61, op := Op.load 24 (Operand.tmp 4), type := 24, pos := "outright.go:56", after := af, guard := some (16, true) }) #[{ on := 16, ground := Ground.guard }] (by kernel_rfl) [16] (by kernel_rfl) fun af v W hb hd => ?_
    have d16 : v 16 = (Value.bool true) := hd 16 (by decide)
    have e4 := (Reg.gfr_eval0 (ops := (Reg.opsOf Try.f3 5)) (a0 := a0) (v := v) (L := [16]) 4 (by kernel_rfl)).trans i4
    have e59 := (Reg.gfr_eval (ops := (Reg.opsOf Try.f3 5)) (a0 := a0) (v := v) (L := [16]) 59 16 (by kernel_rfl) (by rw [hsz]; omega)).trans d16
    refine ⟨Reg.wanted_of rfl (by kernel_rfl) e59, ?_⟩
    generalize Reg.gfr (Reg.opsOf Try.f3 5) a0 v [16] = G at e4 ⊢
    generalize hρ : G.eval = ρ at e4
    have hρ' : G.eval = ρ := hρ
    exact fun K hK => wp_load_row 24 (.tmp 4) rfl gb (by rw [hρ']; exact e4) 24 (vC b) (0, 0) _ (M_gb W hb) Try.underlying24 rfl (vec_size hb') (hK _ _ ⟨Below.refl _ _, rfl⟩)
  have h19 : Reg.OpOK Try.prog (Reg.opsOf Try.f3 5) a0 w0 (lattice5_ftR a b c u l ga gb gc gu gl q s) (fun _ _ _ _ => True) 19 := by
    refine Reg.op_ok2 (fun af => { dst := some 62, op := Op.call { callee := Callee.value (Operand.func 13), args := #[Operand.tmp 60, Operand.tmp 61], argTypes := #[24, 24] }, type := 4, pos := "outright.go:56", after := af, guard := some (16, true) }) #[{ on := 17, ground := Ground.data }, { on := 18, ground := Ground.data }, { on := 16, ground := Ground.chain }, { on := 16, ground := Ground.guard }] (by kernel_rfl) [17, 18, 16, 16] (by kernel_rfl) fun af v W hb hd => ?_
    have d16 : v 16 = (Value.bool true) := hd 16 (by decide)
    have d17 : v 17 = (Value.agg (vC c)) := hd 17 (by decide)
    have d18 : v 18 = (Value.agg (vC b)) := hd 18 (by decide)
    have e60 := (Reg.gfr_eval (ops := (Reg.opsOf Try.f3 5)) (a0 := a0) (v := v) (L := [17, 18, 16, 16]) 60 17 (by kernel_rfl) (by rw [hsz]; omega)).trans d17
    have e61 := (Reg.gfr_eval (ops := (Reg.opsOf Try.f3 5)) (a0 := a0) (v := v) (L := [17, 18, 16, 16]) 61 18 (by kernel_rfl) (by rw [hsz]; omega)).trans d18
    have e59 := (Reg.gfr_eval (ops := (Reg.opsOf Try.f3 5)) (a0 := a0) (v := v) (L := [17, 18, 16, 16]) 59 16 (by kernel_rfl) (by rw [hsz]; omega)).trans d16
    refine ⟨Reg.wanted_of rfl (by kernel_rfl) e59, ?_⟩
    have eF : ∀ f, (Reg.gfr (Reg.opsOf Try.f3 5) a0 v [17, 18, 16, 16]).eval (.func f) = .func (.func f) #[] #[] := fun _ => rfl
    generalize Reg.gfr (Reg.opsOf Try.f3 5) a0 v [17, 18, 16, 16] = G at e60 e61 eF ⊢
    generalize hρ : G.eval = ρ at e60 e61 eF
    have hρ' : G.eval = ρ := hρ
    refine Reg.go_call 13 #[(Value.agg (vC c)), (Value.agg (vC b))] (by rw [hρ']; simp [execOp, go_sem, e60, e61, eF]) ((atmost_any c b hc hb' W).mono fun e w' he => ?_)
    obtain ⟨rfl, hbb⟩ := he
    exact ⟨_, rfl, hbb, (show _ = _ from by rw [f5])⟩
  have h20 : Reg.OpOK Try.prog (Reg.opsOf Try.f3 5) a0 w0 (lattice5_ftR a b c u l ga gb gc gu gl q s) (fun _ _ _ _ => True) 20 := by
    refine Reg.op_ok2 (fun af => { dst := some 63, op := Op.pick (Operand.tmp 59) (Operand.tmp 62) (Operand.const (Value.bool false)), type := 4, pos := "outright.go:56", after := af, guard := some (12, false) }) #[{ on := 16, ground := Ground.data }, { on := 19, ground := Ground.data }, { on := 12, ground := Ground.guard }] (by kernel_rfl) [16, 19, 12] (by kernel_rfl) fun af v W hb hd => ?_
    have d12 : v 12 = (Value.bool false) := hd 12 (by decide)
    have d16 : v 16 = (Value.bool true) := hd 16 (by decide)
    have d19 : v 19 = (Value.bool s) := hd 19 (by decide)
    have e59 := (Reg.gfr_eval (ops := (Reg.opsOf Try.f3 5)) (a0 := a0) (v := v) (L := [16, 19, 12]) 59 16 (by kernel_rfl) (by rw [hsz]; omega)).trans d16
    have e62 := (Reg.gfr_eval (ops := (Reg.opsOf Try.f3 5)) (a0 := a0) (v := v) (L := [16, 19, 12]) 62 19 (by kernel_rfl) (by rw [hsz]; omega)).trans d19
    have e55 := (Reg.gfr_eval (ops := (Reg.opsOf Try.f3 5)) (a0 := a0) (v := v) (L := [16, 19, 12]) 55 12 (by kernel_rfl) (by rw [hsz]; omega)).trans d12
    refine ⟨Reg.wanted_of rfl (by kernel_rfl) e55, ?_⟩
    have eC : ∀ x, (Reg.gfr (Reg.opsOf Try.f3 5) a0 v [16, 19, 12]).eval (.const x) = x := fun _ => rfl
    generalize Reg.gfr (Reg.opsOf Try.f3 5) a0 v [16, 19, 12] = G at e59 e62 eC ⊢
    generalize hρ : G.eval = ρ at e59 e62 eC
    have hρ' : G.eval = ρ := hρ
    refine Reg.go_run (Value.bool s) W ?_ ?_
    · rw [hρ']; simp [execOp, go_sem, e59, e62, eC]
    · exact ⟨Below.refl _ _, rfl⟩
  have h21 : Reg.OpOK Try.prog (Reg.opsOf Try.f3 5) a0 w0 (lattice5_ftR a b c u l ga gb gc gu gl q s) (fun _ _ _ _ => True) 21 := by
    refine Reg.op_ok2 (fun af => { dst := some 64, op := Op.load 24 (Operand.tmp 5), type := 24, pos := "outright.go:56", after := af, guard := some (12, false) }) #[{ on := 12, ground := Ground.guard }] (by kernel_rfl) [12] (by kernel_rfl) fun af v W hb hd => ?_
    have d12 : v 12 = (Value.bool false) := hd 12 (by decide)
    have e5 := (Reg.gfr_eval0 (ops := (Reg.opsOf Try.f3 5)) (a0 := a0) (v := v) (L := [12]) 5 (by kernel_rfl)).trans i5
    have e55 := (Reg.gfr_eval (ops := (Reg.opsOf Try.f3 5)) (a0 := a0) (v := v) (L := [12]) 55 12 (by kernel_rfl) (by rw [hsz]; omega)).trans d12
    refine ⟨Reg.wanted_of rfl (by kernel_rfl) e55, ?_⟩
    generalize Reg.gfr (Reg.opsOf Try.f3 5) a0 v [12] = G at e5 ⊢
    generalize hρ : G.eval = ρ at e5
    have hρ' : G.eval = ρ := hρ
    exact fun K hK => wp_load_row 24 (.tmp 5) rfl gc (by rw [hρ']; exact e5) 24 (vC c) (0, 0) _ (M_gc W hb) Try.underlying24 rfl (vec_size hc) (hK _ _ ⟨Below.refl _ _, rfl⟩)
  have h22 : Reg.OpOK Try.prog (Reg.opsOf Try.f3 5) a0 w0 (lattice5_ftR a b c u l ga gb gc gu gl q s) (fun _ _ _ _ => True) 22 := by
    refine Reg.op_ok2 (fun af => { dst := some 65, op := Op.load 24 (Operand.tmp 9), type := 24, pos := "outright.go:56", after := af, guard := some (12, false) }) #[{ on := 12, ground := Ground.guard }] (by kernel_rfl) [12] (by kernel_rfl) fun af v W hb hd => ?_
    have d12 : v 12 = (Value.bool false) := hd 12 (by decide)
    have e9 := (Reg.gfr_eval0 (ops := (Reg.opsOf Try.f3 5)) (a0 := a0) (v := v) (L := [12]) 9 (by kernel_rfl)).trans i9
    have e55 := (Reg.gfr_eval (ops := (Reg.opsOf Try.f3 5)) (a0 := a0) (v := v) (L := [12]) 55 12 (by kernel_rfl) (by rw [hsz]; omega)).trans d12
    refine ⟨Reg.wanted_of rfl (by kernel_rfl) e55, ?_⟩
    generalize Reg.gfr (Reg.opsOf Try.f3 5) a0 v [12] = G at e9 ⊢
    generalize hρ : G.eval = ρ at e9
    have hρ' : G.eval = ρ := hρ
    exact fun K hK => wp_load_row 24 (.tmp 9) rfl gl (by rw [hρ']; exact e9) 24 (vC l) (0, 0) _ (M_gl W hb) Try.underlying24 rfl (vec_size hl) (hK _ _ ⟨Below.refl _ _, rfl⟩)
  have h23 : Reg.OpOK Try.prog (Reg.opsOf Try.f3 5) a0 w0 (lattice5_ftR a b c u l ga gb gc gu gl q s) (fun _ _ _ _ => True) 23 := by
    refine Reg.op_ok2 (fun af => { dst := some 66, op := Op.call { callee := Callee.value (Operand.func 13), args := #[Operand.tmp 64, Operand.tmp 65], argTypes := #[24, 24] }, type := 4, pos := "outright.go:56", after := af, guard := some (12, false) }) #[{ on := 21, ground := Ground.data }, { on := 22, ground := Ground.data }, { on := 19, ground := Ground.chain }, { on := 12, ground := Ground.guard }] (by kernel_rfl) [21, 22, 19, 12] (by kernel_rfl) fun af v W hb hd => ?_
    have d12 : v 12 = (Value.bool false) := hd 12 (by decide)
    have d21 : v 21 = (Value.agg (vC c)) := hd 21 (by decide)
    have d22 : v 22 = (Value.agg (vC l)) := hd 22 (by decide)
    have e64 := (Reg.gfr_eval (ops := (Reg.opsOf Try.f3 5)) (a0 := a0) (v := v) (L := [21, 22, 19, 12]) 64 21 (by kernel_rfl) (by rw [hsz]; omega)).trans d21
    have e65 := (Reg.gfr_eval (ops := (Reg.opsOf Try.f3 5)) (a0 := a0) (v := v) (L := [21, 22, 19, 12]) 65 22 (by kernel_rfl) (by rw [hsz]; omega)).trans d22
    have e55 := (Reg.gfr_eval (ops := (Reg.opsOf Try.f3 5)) (a0 := a0) (v := v) (L := [21, 22, 19, 12]) 55 12 (by kernel_rfl) (by rw [hsz]; omega)).trans d12
    refine ⟨Reg.wanted_of rfl (by kernel_rfl) e55, ?_⟩
    have eF : ∀ f, (Reg.gfr (Reg.opsOf Try.f3 5) a0 v [21, 22, 19, 12]).eval (.func f) = .func (.func f) #[] #[] := fun _ => rfl
    generalize Reg.gfr (Reg.opsOf Try.f3 5) a0 v [21, 22, 19, 12] = G at e64 e65 eF ⊢
    generalize hρ : G.eval = ρ at e64 e65 eF
    have hρ' : G.eval = ρ := hρ
    refine Reg.go_call 13 #[(Value.agg (vC c)), (Value.agg (vC l))] (by rw [hρ']; simp [execOp, go_sem, e64, e65, eF]) ((atmost_any c l hc hl W).mono fun e w' he => ?_)
    obtain ⟨rfl, hbb⟩ := he
    exact ⟨_, rfl, hbb, (show _ = _ from by rw [f6])⟩
  have h24 : Reg.OpOK Try.prog (Reg.opsOf Try.f3 5) a0 w0 (lattice5_ftR a b c u l ga gb gc gu gl q s) (fun _ _ _ _ => True) 24 := by
    refine Reg.op_ok2 (fun af => { dst := some 67, op := Op.binOp BinOp.neq 4 (Operand.tmp 63) (Operand.tmp 66) 4, type := 4, pos := "outright.go:56", after := af, guard := some (12, false) }) #[{ on := 20, ground := Ground.data }, { on := 23, ground := Ground.data }, { on := 12, ground := Ground.guard }] (by kernel_rfl) [20, 23, 12] (by kernel_rfl) fun af v W hb hd => ?_
    have d12 : v 12 = (Value.bool false) := hd 12 (by decide)
    have d20 : v 20 = (Value.bool s) := hd 20 (by decide)
    have d23 : v 23 = (Value.bool s) := hd 23 (by decide)
    have e63 := (Reg.gfr_eval (ops := (Reg.opsOf Try.f3 5)) (a0 := a0) (v := v) (L := [20, 23, 12]) 63 20 (by kernel_rfl) (by rw [hsz]; omega)).trans d20
    have e66 := (Reg.gfr_eval (ops := (Reg.opsOf Try.f3 5)) (a0 := a0) (v := v) (L := [20, 23, 12]) 66 23 (by kernel_rfl) (by rw [hsz]; omega)).trans d23
    have e55 := (Reg.gfr_eval (ops := (Reg.opsOf Try.f3 5)) (a0 := a0) (v := v) (L := [20, 23, 12]) 55 12 (by kernel_rfl) (by rw [hsz]; omega)).trans d12
    refine ⟨Reg.wanted_of rfl (by kernel_rfl) e55, ?_⟩
    generalize Reg.gfr (Reg.opsOf Try.f3 5) a0 v [20, 23, 12] = G at e63 e66 ⊢
    generalize hρ : G.eval = ρ at e63 e66
    have hρ' : G.eval = ρ := hρ
    refine Reg.go_run (Value.bool false) W ?_ ?_
    · rw [hρ']; simp [execOp, go_sem, e63, e66]
    · exact ⟨Below.refl _ _, rfl⟩
  have h25 : Reg.OpOK Try.prog (Reg.opsOf Try.f3 5) a0 w0 (lattice5_ftR a b c u l ga gb gc gu gl q s) (fun _ _ _ _ => True) 25 := by
    refine Reg.op_ok2 (fun af => { dst := some 68, op := Op.pick (Operand.tmp 55) (Operand.const (Value.bool true)) (Operand.tmp 67), type := 4, pos := "outright.go:56", after := af, guard := none }) #[{ on := 12, ground := Ground.data }, { on := 24, ground := Ground.data }] (by kernel_rfl) [12, 24] (by kernel_rfl) fun af v W hb hd => ?_
    have d12 : v 12 = (Value.bool false) := hd 12 (by decide)
    have d24 : v 24 = (Value.bool false) := hd 24 (by decide)
    have e55 := (Reg.gfr_eval (ops := (Reg.opsOf Try.f3 5)) (a0 := a0) (v := v) (L := [12, 24]) 55 12 (by kernel_rfl) (by rw [hsz]; omega)).trans d12
    have e67 := (Reg.gfr_eval (ops := (Reg.opsOf Try.f3 5)) (a0 := a0) (v := v) (L := [12, 24]) 67 24 (by kernel_rfl) (by rw [hsz]; omega)).trans d24
    refine ⟨Reg.wanted_none rfl, ?_⟩
    have eC : ∀ x, (Reg.gfr (Reg.opsOf Try.f3 5) a0 v [12, 24]).eval (.const x) = x := fun _ => rfl
    generalize Reg.gfr (Reg.opsOf Try.f3 5) a0 v [12, 24] = G at e55 e67 eC ⊢
    generalize hρ : G.eval = ρ at e55 e67 eC
    have hρ' : G.eval = ρ := hρ
    refine Reg.go_run (Value.bool false) W ?_ ?_
    · rw [hρ']; simp [execOp, go_sem, e55, e67, eC]
    · exact ⟨Below.refl _ _, rfl⟩
  refine Reg.region_all (by kernel_rfl) (lattice5_ftR a b c u l ga gb gc gu gl q s) (by rw [hn, hsz]; kernel_rfl) (lattice5_ft_stable a b c u l ga gb gc gu gl q s) (fun i hi => ?_) (fun v w hb hR => ?_)
  · rw [hn] at hi
    match i, List.mem_range.1 hi with
    | 0, _ => exact h0
    | 1, _ => exact h1
    | 2, _ => exact h2
    | 3, _ => exact h3
    | 4, _ => exact h4
    | 5, _ => exact h5
    | 6, _ => exact h6
    | 7, _ => exact h7
    | 8, _ => exact h8
    | 9, _ => exact h9
    | 10, _ => exact h10
    | 11, _ => exact h11
    | 12, _ => exact h12
    | 13, _ => exact h13
    | 14, _ => exact h14
    | 15, _ => exact h15
    | 16, _ => exact h16
    | 17, _ => exact h17
    | 18, _ => exact h18
    | 19, _ => exact h19
    | 20, _ => exact h20
    | 21, _ => exact h21
    | 22, _ => exact h22
    | 23, _ => exact h23
    | 24, _ => exact h24
    | 25, _ => exact h25
    | (_ + 26), h => omega
  · rw [hn] at hR ⊢
    have v0 : v 0 = (Value.agg (vC a)) := hR 0 (by decide)
    have v1 : v 1 = (Value.agg (vC c)) := hR 1 (by decide)
    have v2 : v 2 = (Value.bool false) := hR 2 (by decide)
    have v3 : v 3 = (Value.bool false) := hR 3 (by decide)
    have v4 : v 4 = undef := hR 4 (by decide)
    have v5 : v 5 = undef := hR 5 (by decide)
    have v6 : v 6 = undef := hR 6 (by decide)
    have v7 : v 7 = (Value.bool false) := hR 7 (by decide)
    have v8 : v 8 = (Value.agg (vC u)) := hR 8 (by decide)
    have v9 : v 9 = (Value.agg (vC c)) := hR 9 (by decide)
    have v10 : v 10 = (Value.bool false) := hR 10 (by decide)
    have v11 : v 11 = (Value.bool false) := hR 11 (by decide)
    have v12 : v 12 = (Value.bool false) := hR 12 (by decide)
    have v13 : v 13 = (Value.agg (vC c)) := hR 13 (by decide)
    have v14 : v 14 = (Value.agg (vC a)) := hR 14 (by decide)
    have v15 : v 15 = (Value.bool true) := hR 15 (by decide)
    have v16 : v 16 = (Value.bool true) := hR 16 (by decide)
    have v17 : v 17 = (Value.agg (vC c)) := hR 17 (by decide)
    have v18 : v 18 = (Value.agg (vC b)) := hR 18 (by decide)
    have v19 : v 19 = (Value.bool s) := hR 19 (by decide)
    have v20 : v 20 = (Value.bool s) := hR 20 (by decide)
    have v21 : v 21 = (Value.agg (vC c)) := hR 21 (by decide)
    have v22 : v 22 = (Value.agg (vC l)) := hR 22 (by decide)
    have v23 : v 23 = (Value.bool s) := hR 23 (by decide)
    have v24 : v 24 = (Value.bool false) := hR 24 (by decide)
    have v25 : v 25 = (Value.bool false) := hR 25 (by decide)
    rw [hfin v, v0, v1, v2, v3, v4, v5, v6, v7, v8, v9, v10, v11, v12, v13, v14, v15, v16, v17, v18, v19, v20, v21, v22, v23, v24, v25]
    exact hend w  hb 
def lattice5_ffR (a b c u l : List Nat) (ga gb gc gu gl : Nat) (q s : Bool) : Nat → Value → World → Prop
  | 0 => fun x_ _ => x_ = (Value.agg (vC a))
  | 1 => fun x_ _ => x_ = (Value.agg (vC c))
  | 2 => fun x_ _ => x_ = (Value.bool false)
  | 3 => fun x_ _ => x_ = (Value.bool false)
  | 4 => fun x_ _ => x_ = undef
  | 5 => fun x_ _ => x_ = undef
  | 6 => fun x_ _ => x_ = undef
  | 7 => fun x_ _ => x_ = (Value.bool false)
  | 8 => fun x_ _ => x_ = (Value.agg (vC u))
  | 9 => fun x_ _ => x_ = (Value.agg (vC c))
  | 10 => fun x_ _ => x_ = (Value.bool false)
  | 11 => fun x_ _ => x_ = (Value.bool false)
  | 12 => fun x_ _ => x_ = (Value.bool false)
  | 13 => fun x_ _ => x_ = (Value.agg (vC c))
  | 14 => fun x_ _ => x_ = (Value.agg (vC a))
  | 15 => fun x_ _ => x_ = (Value.bool false)
  | 16 => fun x_ _ => x_ = (Value.bool false)
  | 17 => fun x_ _ => x_ = undef
  | 18 => fun x_ _ => x_ = undef
  | 19 => fun x_ _ => x_ = undef
  | 20 => fun x_ _ => x_ = (Value.bool false)
  | 21 => fun x_ _ => x_ = (Value.agg (vC c))
  | 22 => fun x_ _ => x_ = (Value.agg (vC l))
  | 23 => fun x_ _ => x_ = (Value.bool false)
  | 24 => fun x_ _ => x_ = (Value.bool false)
  | 25 => fun x_ _ => x_ = (Value.bool false)
  | _ => fun _ _ => True
theorem lattice5_ff_stable (a b c u l : List Nat) (ga gb gc gu gl : Nat) (q s : Bool) : ∀ i_ u_ w_ w_', (lattice5_ffR a b c u l ga gb gc gu gl q s) i_ u_ w_ → Below w_.heap.size w_ w_' → (lattice5_ffR a b c u l ga gb gc gu gl q s) i_ u_ w_' := fun i_ u_ w_ w_' h_ hb_ => by
  match i_, h_ with
  | 0, h_ => exact h_
  | 1, h_ => exact h_
  | 2, h_ => exact h_
  | 3, h_ => exact h_
  | 4, h_ => exact h_
  | 5, h_ => exact h_
  | 6, h_ => exact h_
  | 7, h_ => exact h_
  | 8, h_ => exact h_
  | 9, h_ => exact h_
  | 10, h_ => exact h_
  | 11, h_ => exact h_
  | 12, h_ => exact h_
  | 13, h_ => exact h_
  | 14, h_ => exact h_
  | 15, h_ => exact h_
  | 16, h_ => exact h_
  | 17, h_ => exact h_
  | 18, h_ => exact h_
  | 19, h_ => exact h_
  | 20, h_ => exact h_
  | 21, h_ => exact h_
  | 22, h_ => exact h_
  | 23, h_ => exact h_
  | 24, h_ => exact h_
  | 25, h_ => exact h_
  | (_ + 26), _ => trivial
set_option maxHeartbeats 4000000 in
set_option maxRecDepth 20000 in
theorem lattice5_ff (a b c u l : List Nat) (ga gb gc gu gl : Nat) (q s : Bool) (w0 : World) {s0 s1 s2 s6 s7 s10 s11 s12 s13 s14 s15 s16 s17 s18 s19 s20 s21 s22 s23 s24 s25 s26 s27 s28 s29 s30 s31 s32 s33 s34 s35 s36 s37 s38 s39 s40 s41 s42 s43 s44 s45 s46 s47 s48 s49 s50 s51 s52 s53 s54 s55 s56 s57 s58 s59 s60 s61 s62 s63 s64 s65 s66 s67 s68 s69 s70 s71 s72 s73 s74 s75 s76 s77 s78 s79 s80 s81 s82 s83 s84 s85 s86 s87 s88 s89 s90 s91 s92 s93 s94 s95 s96 s97 s98 s99 s100 s101 s102 s103 s104 s105 s106 s107 s108 s109 s110 s111 s112 s113 s114 s115 s116 s117 s118 s119 s120 s121 s122 s123 s124 s125 s126 s127 s128 s129 s130 s131 s132 s133 s134 s135 s136 s137 s138 s139 s140 : Value}
    (ha : a.length = 16) (hb' : b.length = 16) (hc : c.length = 16) (hu : u.length = 16) (hl : l.length = 16)
    (f1 : decide (maxV a c = c) = false) (f2 : decide (maxV b c = c) = q) (f3 : decide (maxV u c = c) = false) (f4 : decide (maxV c a = a) = false) (f5 : decide (maxV c b = b) = s) (f6 : decide (maxV c l = l) = false)
    (M_ga : ∀ W, Below w0.heap.size w0 W → W.heap[ga]? = some (.cells (vC a) 24 (0, 0)))
    (M_gb : ∀ W, Below w0.heap.size w0 W → W.heap[gb]? = some (.cells (vC b) 24 (0, 0)))
    (M_gc : ∀ W, Below w0.heap.size w0 W → W.heap[gc]? = some (.cells (vC c) 24 (0, 0)))
    (M_gu : ∀ W, Below w0.heap.size w0 W → W.heap[gu]? = some (.cells (vC u) 24 (0, 0)))
    (M_gl : ∀ W, Below w0.heap.size w0 W → W.heap[gl]? = some (.cells (vC l) 24 (0, 0)))
    {Q : Exit → Act → World → Prop}
    (hend : ∀ (w : World), Below w0.heap.size w0 w → Q .normal { tmps := #[s0, s1, s2, (Value.pointer (some ⟨ga, 0, none⟩)), (Value.pointer (some ⟨gb, 0, none⟩)), (Value.pointer (some ⟨gc, 0, none⟩)), s6, s7, (Value.pointer (some ⟨gu, 0, none⟩)), (Value.pointer (some ⟨gl, 0, none⟩)), s10, s11, s12, s13, s14, s15, s16, s17, s18, s19, s20, s21, s22, s23, s24, s25, s26, s27, s28, s29, s30, s31, s32, s33, s34, s35, s36, s37, s38, s39, s40, s41, s42, (Value.agg (vC a)), (Value.agg (vC c)), (Value.bool false), (Value.bool false), undef, undef, undef, (Value.bool false), (Value.agg (vC u)), (Value.agg (vC c)), (Value.bool false), (Value.bool false), (Value.bool false), (Value.agg (vC c)), (Value.agg (vC a)), (Value.bool false), (Value.bool false), undef, undef, undef, (Value.bool false), (Value.agg (vC c)), (Value.agg (vC l)), (Value.bool false), (Value.bool false), (Value.bool false), s69, s70, s71, s72, s73, s74, s75, s76, s77, s78, s79, s80, s81, s82, s83, s84, s85, s86, s87, s88, s89, s90, s91, s92, s93, s94, s95, s96, s97, s98, s99, s100, s101, s102, s103, s104, s105, s106, s107, s108, s109, s110, s111, s112, s113, s114, s115, s116, s117, s118, s119, s120, s121, s122, s123, s124, s125, s126, s127, s128, s129, s130, s131, s132, s133, s134, s135, s136, s137, s138, s139, s140], defers := [] } w) :
    (Code.region 5 (Reg.opsOf Try.f3 5) true).wp Try.prog Q { tmps := #[s0, s1, s2, (Value.pointer (some ⟨ga, 0, none⟩)), (Value.pointer (some ⟨gb, 0, none⟩)), (Value.pointer (some ⟨gc, 0, none⟩)), s6, s7, (Value.pointer (some ⟨gu, 0, none⟩)), (Value.pointer (some ⟨gl, 0, none⟩)), s10, s11, s12, s13, s14, s15, s16, s17, s18, s19, s20, s21, s22, s23, s24, s25, s26, s27, s28, s29, s30, s31, s32, s33, s34, s35, s36, s37, s38, s39, s40, s41, s42, s43, s44, s45, s46, s47, s48, s49, s50, s51, s52, s53, s54, s55, s56, s57, s58, s59, s60, s61, s62, s63, s64, s65, s66, s67, s68, s69, s70, s71, s72, s73, s74, s75, s76, s77, s78, s79, s80, s81, s82, s83, s84, s85, s86, s87, s88, s89, s90, s91, s92, s93, s94, s95, s96, s97, s98, s99, s100, s101, s102, s103, s104, s105, s106, s107, s108, s109, s110, s111, s112, s113, s114, s115, s116, s117, s118, s119, s120, s121, s122, s123, s124, s125, s126, s127, s128, s129, s130, s131, s132, s133, s134, s135, s136, s137, s138, s139, s140], defers := [] } w0 := by
  obtain ⟨a0, ha0⟩ : ∃ a0 : Act, a0 = { tmps := #[s0, s1, s2, (Value.pointer (some ⟨ga, 0, none⟩)), (Value.pointer (some ⟨gb, 0, none⟩)), (Value.pointer (some ⟨gc, 0, none⟩)), s6, s7, (Value.pointer (some ⟨gu, 0, none⟩)), (Value.pointer (some ⟨gl, 0, none⟩)), s10, s11, s12, s13, s14, s15, s16, s17, s18, s19, s20, s21, s22, s23, s24, s25, s26, s27, s28, s29, s30, s31, s32, s33, s34, s35, s36, s37, s38, s39, s40, s41, s42, s43, s44, s45, s46, s47, s48, s49, s50, s51, s52, s53, s54, s55, s56, s57, s58, s59, s60, s61, s62, s63, s64, s65, s66, s67, s68, s69, s70, s71, s72, s73, s74, s75, s76, s77, s78, s79, s80, s81, s82, s83, s84, s85, s86, s87, s88, s89, s90, s91, s92, s93, s94, s95, s96, s97, s98, s99, s100, s101, s102, s103, s104, s105, s106, s107, s108, s109, s110, s111, s112, s113, s114, s115, s116, s117, s118, s119, s120, s121, s122, s123, s124, s125, s126, s127, s128, s129, s130, s131, s132, s133, s134, s135, s136, s137, s138, s139, s140], defers := [] } := ⟨_, rfl⟩
  have hfin : ∀ v : Nat → Value, Reg.gfr (Reg.opsOf Try.f3 5) a0 v (List.range 26) = { tmps := #[s0, s1, s2, (Value.pointer (some ⟨ga, 0, none⟩)), (Value.pointer (some ⟨gb, 0, none⟩)), (Value.pointer (some ⟨gc, 0, none⟩)), s6, s7, (Value.pointer (some ⟨gu, 0, none⟩)), (Value.pointer (some ⟨gl, 0, none⟩)), s10, s11, s12, s13, s14, s15, s16, s17, s18, s19, s20, s21, s22, s23, s24, s25, s26, s27, s28, s29, s30, s31, s32, s33, s34, s35, s36, s37, s38, s39, s40, s41, s42, v 0, v 1, v 2, v 3, v 4, v 5, v 6, v 7, v 8, v 9, v 10, v 11, v 12, v 13, v 14, v 15, v 16, v 17, v 18, v 19, v 20, v 21, v 22, v 23, v 24, v 25, s69, s70, s71, s72, s73, s74, s75, s76, s77, s78, s79, s80, s81, s82, s83, s84, s85, s86, s87, s88, s89, s90, s91, s92, s93, s94, s95, s96, s97, s98, s99, s100, s101, s102, s103, s104, s105, s106, s107, s108, s109, s110, s111, s112, s113, s114, s115, s116, s117, s118, s119, s120, s121, s122, s123, s124, s125, s126, s127, s128, s129, s130, s131, s132, s133, s134, s135, s136, s137, s138, s139, s140], defers := [] } := fun v => by rw [ha0]; kernel_rfl
  rw [← ha0]
  have i3 : a0.eval (.tmp 3) = (Value.pointer (some ⟨ga, 0, none⟩)) := by rw [ha0]; rfl
  have i4 : a0.eval (.tmp 4) = (Value.pointer (some ⟨gb, 0, none⟩)) := by rw [ha0]; rfl
  have i5 : a0.eval (.tmp 5) = (Value.pointer (some ⟨gc, 0, none⟩)) := by rw [ha0]; rfl
  have i8 : a0.eval (.tmp 8) = (Value.pointer (some ⟨gu, 0, none⟩)) := by rw [ha0]; rfl
  have i9 : a0.eval (.tmp 9) = (Value.pointer (some ⟨gl, 0, none⟩)) := by rw [ha0]; rfl
  have hsz : a0.tmps.size = 141 := by rw [ha0]; rfl
  clear ha0
  have hn : (Reg.opsOf Try.f3 5).size = 26 := by kernel_rfl
  have h0 : Reg.OpOK Try.prog (Reg.opsOf Try.f3 5) a0 w0 (lattice5_ffR a b c u l ga gb gc gu gl q s) (fun _ _ _ _ => True) 0 := by
    refine Reg.op_ok2 (fun af => { dst := some 43, op := Op.load 24 (Operand.tmp 3), type := 24, pos := "outright.go:56", after := af, guard := none }) #[] (by kernel_rfl) [] (by kernel_rfl) fun af v W hb hd => ?_
    have e3 := (Reg.gfr_eval0 (ops := (Reg.opsOf Try.f3 5)) (a0 := a0) (v := v) (L := []) 3 (by kernel_rfl)).trans i3
    refine ⟨Reg.wanted_none rfl, ?_⟩
    generalize Reg.gfr (Reg.opsOf Try.f3 5) a0 v [] = G at e3 ⊢
    generalize hρ : G.eval = ρ at e3
    have hρ' : G.eval = ρ := hρ
    exact fun K hK => wp_load_row 24 (.tmp 3) rfl ga (by rw [hρ']; exact e3) 24 (vC a) (0, 0) _ (M_ga W hb) Try.underlying24 rfl (vec_size ha) (hK _ _ ⟨Below.refl _ _, rfl⟩)
  have h1 : Reg.OpOK Try.prog (Reg.opsOf Try.f3 5) a0 w0 (lattice5_ffR a b c u l ga gb gc gu gl q s) (fun _ _ _ _ => True) 1 := by
    refine Reg.op_ok2 (fun af => { dst := some 44, op := Op.load 24 (Operand.tmp 5), type := 24, pos := "outright.go:56", after := af, guard := none }) #[] (by kernel_rfl) [] (by kernel_rfl) fun af v W hb hd => ?_
    have e5 := (Reg.gfr_eval0 (ops := (Reg.opsOf Try.f3 5)) (a0 := a0) (v := v) (L := []) 5 (by kernel_rfl)).trans i5
    refine ⟨Reg.wanted_none rfl, ?_⟩
    generalize Reg.gfr (Reg.opsOf Try.f3 5) a0 v [] = G at e5 ⊢
    generalize hρ : G.eval = ρ at e5
    have hρ' : G.eval = ρ := hρ
    exact fun K hK => wp_load_row 24 (.tmp 5) rfl gc (by rw [hρ']; exact e5) 24 (vC c) (0, 0) _ (M_gc W hb) Try.underlying24 rfl (vec_size hc) (hK _ _ ⟨Below.refl _ _, rfl⟩)
  have h2 : Reg.OpOK Try.prog (Reg.opsOf Try.f3 5) a0 w0 (lattice5_ffR a b c u l ga gb gc gu gl q s) (fun _ _ _ _ => True) 2 := by
    refine Reg.op_ok2 (fun af => { dst := some 45, op := Op.call { callee := Callee.value (Operand.func 13), args := #[Operand.tmp 43, Operand.tmp 44], argTypes := #[24, 24] }, type := 4, pos := "outright.go:56", after := af, guard := none }) #[{ on := 0, ground := Ground.data }, { on := 1, ground := Ground.data }] (by kernel_rfl) [0, 1] (by kernel_rfl) fun af v W hb hd => ?_
    have d0 : v 0 = (Value.agg (vC a)) := hd 0 (by decide)
    have d1 : v 1 = (Value.agg (vC c)) := hd 1 (by decide)
    have e43 := (Reg.gfr_eval (ops := (Reg.opsOf Try.f3 5)) (a0 := a0) (v := v) (L := [0, 1]) 43 0 (by kernel_rfl) (by rw [hsz]; omega)).trans d0
    have e44 := (Reg.gfr_eval (ops := (Reg.opsOf Try.f3 5)) (a0 := a0) (v := v) (L := [0, 1]) 44 1 (by kernel_rfl) (by rw [hsz]; omega)).trans d1
    refine ⟨Reg.wanted_none rfl, ?_⟩
    have eF : ∀ f, (Reg.gfr (Reg.opsOf Try.f3 5) a0 v [0, 1]).eval (.func f) = .func (.func f) #[] #[] := fun _ => rfl
    generalize Reg.gfr (Reg.opsOf Try.f3 5) a0 v [0, 1] = G at e43 e44 eF ⊢
    generalize hρ : G.eval = ρ at e43 e44 eF
    have hρ' : G.eval = ρ := hρ
    refine Reg.go_call 13 #[(Value.agg (vC a)), (Value.agg (vC c))] (by rw [hρ']; simp [execOp, go_sem, e43, e44, eF]) ((atmost_any a c ha hc W).mono fun e w' he => ?_)
    obtain ⟨rfl, hbb⟩ := he
    exact ⟨_, rfl, hbb, (show _ = _ from by rw [f1])⟩
  have h3 : Reg.OpOK Try.prog (Reg.opsOf Try.f3 5) a0 w0 (lattice5_ffR a b c u l ga gb gc gu gl q s) (fun _ _ _ _ => True) 3 := by
    refine Reg.op_ok2 (fun af => { dst := some 46, op := Op.move (Operand.tmp 45), type := 4, pos := "outright.go:56", after := af, guard := none }) #[{ on := 2, ground := Ground.data }, { on := 2, ground := Ground.chain }] (by kernel_rfl) [2, 2] (by kernel_rfl) fun af v W hb hd => ?_
    have d2 : v 2 = (Value.bool false) := hd 2 (by decide)
    have e45 := (Reg.gfr_eval (ops := (Reg.opsOf Try.f3 5)) (a0 := a0) (v := v) (L := [2, 2]) 45 2 (by kernel_rfl) (by rw [hsz]; omega)).trans d2
    refine ⟨Reg.wanted_none rfl, ?_⟩
    generalize Reg.gfr (Reg.opsOf Try.f3 5) a0 v [2, 2] = G at e45 ⊢
    generalize hρ : G.eval = ρ at e45
    have hρ' : G.eval = ρ := hρ
    refine Reg.go_run (Value.bool false) W ?_ ?_
    · rw [hρ']; simp [execOp, go_sem, e45]
    · exact ⟨Below.refl _ _, rfl⟩
  have h4 : Reg.OpOK Try.prog (Reg.opsOf Try.f3 5) a0 w0 (lattice5_ffR a b c u l ga gb gc gu gl q s) (fun _ _ _ _ => True) 4 := by
    refine Reg.op_no2 (fun af => { dst := some 47, op := Op.load 24 (Operand.tmp 4), type := 24, pos := "outright.go:56", after := af, guard := some (3, true) }) #[{ on := 3, ground := Ground.guard }] (by kernel_rfl) [3] (by kernel_rfl) fun af v W hb hd => ?_
    have d3 : v 3 = (Value.bool false) := hd 3 (by decide)
    have e46 := (Reg.gfr_eval (ops := (Reg.opsOf Try.f3 5)) (a0 := a0) (v := v) (L := [3]) 46 3 (by kernel_rfl) (by rw [hsz]; omega)).trans d3
    exact ⟨Reg.wanted_not rfl (by kernel_rfl) e46, rfl, fun _ _ _ _ => ⟨trivial, trivial⟩⟩
  have h5 : Reg.OpOK Try.prog (Reg.opsOf Try.f3 5) a0 w0 (lattice5_ffR a b c u l ga gb gc gu gl q s) (fun _ _ _ _ => True) 5 := by
    refine Reg.op_no2 (fun af => { dst := some 48, op := Op.load 24 (Operand.tmp 5), type := 24, pos := "outright.go:56", after := af, guard := some (3, true) }) #[{ on := 3, ground := Ground.guard }] (by kernel_rfl) [3] (by kernel_rfl) fun af v W hb hd => ?_
    have d3 : v 3 = (Value.bool false) := hd 3 (by decide)
    have e46 := (Reg.gfr_eval (ops := (Reg.opsOf Try.f3 5)) (a0 := a0) (v := v) (L := [3]) 46 3 (by kernel_rfl) (by rw [hsz]; omega)).trans d3
    exact ⟨Reg.wanted_not rfl (by kernel_rfl) e46, rfl, fun _ _ _ _ => ⟨trivial, trivial⟩⟩
  have h6 : Reg.OpOK Try.prog (Reg.opsOf Try.f3 5) a0 w0 (lattice5_ffR a b c u l ga gb gc gu gl q s) (fun _ _ _ _ => True) 6 := by
    refine Reg.op_no2 (fun af => { dst := some 49, op := Op.call { callee := Callee.value (Operand.func 13), args := #[Operand.tmp 47, Operand.tmp 48], argTypes := #[24, 24] }, type := 4, pos := "outright.go:56", after := af, guard := some (3, true) }) #[{ on := 4, ground := Ground.data }, { on := 5, ground := Ground.data }, { on := 3, ground := Ground.chain }, { on := 3, ground := Ground.guard }] (by kernel_rfl) [4, 5, 3, 3] (by kernel_rfl) fun af v W hb hd => ?_
    have d3 : v 3 = (Value.bool false) := hd 3 (by decide)
    have e46 := (Reg.gfr_eval (ops := (Reg.opsOf Try.f3 5)) (a0 := a0) (v := v) (L := [4, 5, 3, 3]) 46 3 (by kernel_rfl) (by rw [hsz]; omega)).trans d3
    exact ⟨Reg.wanted_not rfl (by kernel_rfl) e46, rfl, fun _ _ _ _ => ⟨trivial, trivial⟩⟩
  have h7 : Reg.OpOK Try.prog (Reg.opsOf Try.f3 5) a0 w0 (lattice5_ffR a b c u l ga gb gc gu gl q s) (fun _ _ _ _ => True) 7 := by
    refine Reg.op_ok2 (fun af => { dst := some 50, op := Op.pick (Operand.tmp 46) (Operand.tmp 49) (Operand.const (Value.bool false)), type := 4, pos := "outright.go:56", after := af, guard := none }) #[{ on := 3, ground := Ground.data }, { on := 6, ground := Ground.data }] (by kernel_rfl) [3, 6] (by kernel_rfl) fun af v W hb hd => ?_
    have d3 : v 3 = (Value.bool false) := hd 3 (by decide)
    have d6 : v 6 = undef := hd 6 (by decide)
    have e46 := (Reg.gfr_eval (ops := (Reg.opsOf Try.f3 5)) (a0 := a0) (v := v) (L := [3, 6]) 46 3 (by kernel_rfl) (by rw [hsz]; omega)).trans d3
    have e49 := (Reg.gfr_eval (ops := (Reg.opsOf Try.f3 5)) (a0 := a0) (v := v) (L := [3, 6]) 49 6 (by kernel_rfl) (by rw [hsz]; omega)).trans d6
    refine ⟨Reg.wanted_none rfl, ?_⟩
    have eC : ∀ x, (Reg.gfr (Reg.opsOf Try.f3 5) a0 v [3, 6]).eval (.const x) = x := fun _ => rfl
    generalize Reg.gfr (Reg.opsOf Try.f3 5) a0 v [3, 6] = G at e46 e49 eC ⊢
    generalize hρ : G.eval = ρ at e46 e49 eC
    have hρ' : G.eval = ρ := hρ
    refine Reg.go_run (Value.bool false) W ?_ ?_
    · rw [hρ']; simp [execOp, go_sem, e46, e49, eC]
    · exact ⟨Below.refl _ _, rfl⟩
  have h8 : Reg.OpOK Try.prog (Reg.opsOf Try.f3 5) a0 w0 (lattice5_ffR a b c u l ga gb gc gu gl q s) (fun _ _ _ _ => True) 8 := by
    refine Reg.op_ok2 (fun af => { dst := some 51, op := Op.load 24 (Operand.tmp 8), type := 24, pos := "outright.go:56", after := af, guard := none }) #[] (by kernel_rfl) [] (by kernel_rfl) fun af v W hb hd => ?_
    have e8 := (Reg.gfr_eval0 (ops := (Reg.opsOf Try.f3 5)) (a0 := a0) (v := v) (L := []) 8 (by kernel_rfl)).trans i8
    refine ⟨Reg.wanted_none rfl, ?_⟩
    generalize Reg.gfr (Reg.opsOf Try.f3 5) a0 v [] = G at e8 ⊢
    generalize hρ : G.eval = ρ at e8
    have hρ' : G.eval = ρ := hρ
    exact fun K hK => wp_load_row 24 (.tmp 8) rfl gu (by rw [hρ']; exact e8) 24 (vC u) (0, 0) _ (M_gu W hb) Try.underlying24 rfl (vec_size hu) (hK _ _ ⟨Below.refl _ _, rfl⟩)
  have h9 : Reg.OpOK Try.prog (Reg.opsOf Try.f3 5) a0 w0 (lattice5_ffR a b c u l ga gb gc gu gl q s) (fun _ _ _ _ => True) 9 := by
    refine Reg.op_ok2 (fun af => { dst := some 52, op := Op.load 24 (Operand.tmp 5), type := 24, pos := "outright.go:56", after := af, guard := none }) #[] (by kernel_rfl) [] (by kernel_rfl) fun af v W hb hd => ?_
    have e5 := (Reg.gfr_eval0 (ops := (Reg.opsOf Try.f3 5)) (a0 := a0) (v := v) (L := []) 5 (by kernel_rfl)).trans i5
    refine ⟨Reg.wanted_none rfl, ?_⟩
    generalize Reg.gfr (Reg.opsOf Try.f3 5) a0 v [] = G at e5 ⊢
    generalize hρ : G.eval = ρ at e5
    have hρ' : G.eval = ρ := hρ
    exact fun K hK => wp_load_row 24 (.tmp 5) rfl gc (by rw [hρ']; exact e5) 24 (vC c) (0, 0) _ (M_gc W hb) Try.underlying24 rfl (vec_size hc) (hK _ _ ⟨Below.refl _ _, rfl⟩)
  have h10 : Reg.OpOK Try.prog (Reg.opsOf Try.f3 5) a0 w0 (lattice5_ffR a b c u l ga gb gc gu gl q s) (fun _ _ _ _ => True) 10 := by
    refine Reg.op_ok2 (fun af => { dst := some 53, op := Op.call { callee := Callee.value (Operand.func 13), args := #[Operand.tmp 51, Operand.tmp 52], argTypes := #[24, 24] }, type := 4, pos := "outright.go:56", after := af, guard := none }) #[{ on := 8, ground := Ground.data }, { on := 9, ground := Ground.data }, { on := 6, ground := Ground.chain }] (by kernel_rfl) [8, 9, 6] (by kernel_rfl) fun af v W hb hd => ?_
    have d8 : v 8 = (Value.agg (vC u)) := hd 8 (by decide)
    have d9 : v 9 = (Value.agg (vC c)) := hd 9 (by decide)
    have e51 := (Reg.gfr_eval (ops := (Reg.opsOf Try.f3 5)) (a0 := a0) (v := v) (L := [8, 9, 6]) 51 8 (by kernel_rfl) (by rw [hsz]; omega)).trans d8
    have e52 := (Reg.gfr_eval (ops := (Reg.opsOf Try.f3 5)) (a0 := a0) (v := v) (L := [8, 9, 6]) 52 9 (by kernel_rfl) (by rw [hsz]; omega)).trans d9
    refine ⟨Reg.wanted_none rfl, ?_⟩
    have eF : ∀ f, (Reg.gfr (Reg.opsOf Try.f3 5) a0 v [8, 9, 6]).eval (.func f) = .func (.func f) #[] #[] := fun _ => rfl
    generalize Reg.gfr (Reg.opsOf Try.f3 5) a0 v [8, 9, 6] = G at e51 e52 eF ⊢
    generalize hρ : G.eval = ρ at e51 e52 eF
    have hρ' : G.eval = ρ := hρ
    refine Reg.go_call 13 #[(Value.agg (vC u)), (Value.agg (vC c))] (by rw [hρ']; simp [execOp, go_sem, e51, e52, eF]) ((atmost_any u c hu hc W).mono fun e w' he => ?_)
    obtain ⟨rfl, hbb⟩ := he
    exact ⟨_, rfl, hbb, (show _ = _ from by rw [f3])⟩
  have h11 : Reg.OpOK Try.prog (Reg.opsOf Try.f3 5) a0 w0 (lattice5_ffR a b c u l ga gb gc gu gl q s) (fun _ _ _ _ => True) 11 := by
    refine Reg.op_ok2 (fun af => { dst := some 54, op := Op.binOp BinOp.neq 4 (Operand.tmp 50) (Operand.tmp 53) 4, type := 4, pos := "outright.go:56", after := af, guard := none }) #[{ on := 7, ground := Ground.data }, { on := 10, ground := Ground.data }] (by kernel_rfl) [7, 10] (by kernel_rfl) fun af v W hb hd => ?_
    have d7 : v 7 = (Value.bool false) := hd 7 (by decide)
    have d10 : v 10 = (Value.bool false) := hd 10 (by decide)
    have e50 := (Reg.gfr_eval (ops := (Reg.opsOf Try.f3 5)) (a0 := a0) (v := v) (L := [7, 10]) 50 7 (by kernel_rfl) (by rw [hsz]; omega)).trans d7
    have e53 := (Reg.gfr_eval (ops := (Reg.opsOf Try.f3 5)) (a0 := a0) (v := v) (L := [7, 10]) 53 10 (by kernel_rfl) (by rw [hsz]; omega)).trans d10
    refine ⟨Reg.wanted_none rfl, ?_⟩
    generalize Reg.gfr (Reg.opsOf Try.f3 5) a0 v [7, 10] = G at e50 e53 ⊢
    generalize hρ : G.eval = ρ at e50 e53
    have hρ' : G.eval = ρ := hρ
    refine Reg.go_run (Value.bool false) W ?_ ?_
    · rw [hρ']; simp [execOp, go_sem, e50, e53]
    · exact ⟨Below.refl _ _, rfl⟩
  have h12 : Reg.OpOK Try.prog (Reg.opsOf Try.f3 5) a0 w0 (lattice5_ffR a b c u l ga gb gc gu gl q s) (fun _ _ _ _ => True) 12 := by
    refine Reg.op_ok2 (fun af => { dst := some 55, op := Op.move (Operand.tmp 54), type := 4, pos := "outright.go:56", after := af, guard := none }) #[{ on := 11, ground := Ground.data }, { on := 10, ground := Ground.chain }] (by kernel_rfl) [11, 10] (by kernel_rfl) fun af v W hb hd => ?_
    have d11 : v 11 = (Value.bool false) := hd 11 (by decide)
    have e54 := (Reg.gfr_eval (ops := (Reg.opsOf Try.f3 5)) (a0 := a0) (v := v) (L := [11, 10]) 54 11 (by kernel_rfl) (by rw [hsz]; omega)).trans d11
    refine ⟨Reg.wanted_none rfl, ?_⟩
    generalize Reg.gfr (Reg.opsOf Try.f3 5) a0 v [11, 10] = G at e54 ⊢
    generalize hρ : G.eval = ρ at e54
    have hρ' : G.eval = ρ := hρ
    refine Reg.go_run (Value.bool false) W ?_ ?_
    · rw [hρ']; simp [execOp, go_sem, e54]
    · exact ⟨Below.refl _ _, rfl⟩
  have h13 : Reg.OpOK Try.prog (Reg.opsOf Try.f3 5) a0 w0 (lattice5_ffR a b c u l ga gb gc gu gl q s) (fun _ _ _ _ => True) 13 := by
    refine Reg.op_ok2 (fun af => { dst := some 56, op := Op.load 24 (Operand.tmp 5), type := 24, pos := "outright.go:56", after := af, guard := some (12, false) }) #[{ on := 12, ground := Ground.guard }] (by kernel_rfl) [12] (by kernel_rfl) fun af v W hb hd => ?_
    have d12 : v 12 = (Value.bool false) := hd 12 (by decide)
    have e5 := (Reg.gfr_eval0 (ops := (Reg.opsOf Try.f3 5)) (a0 := a0) (v := v) (L := [12]) 5 (by kernel_rfl)).trans i5
    have e55 := (Reg.gfr_eval (ops := (Reg.opsOf Try.f3 5)) (a0 := a0) (v := v) (L := [12]) 55 12 (by kernel_rfl) (by rw [hsz]; omega)).trans d12
    refine ⟨Reg.wanted_of rfl (by kernel_rfl) e55, ?_⟩
    generalize Reg.gfr (Reg.opsOf Try.f3 5) a0 v [12] = G at e5 ⊢
    generalize hρ : G.eval = ρ at e5
    have hρ' : G.eval = ρ := hρ
    exact fun K hK => wp_load_row 24 (.tmp 5) rfl gc (by rw [hρ']; exact e5) 24 (vC c) (0, 0) _ (M_gc W hb) Try.underlying24 rfl (vec_size hc) (hK _ _ ⟨Below.refl _ _, rfl⟩)
  have h14 : Reg.OpOK Try.prog (Reg.opsOf Try.f3 5) a0 w0 (lattice5_ffR a b c u l ga gb gc gu gl q s) (fun _ _ _ _ => True) 14 := by
    refine Reg.op_ok2 (fun af => { dst := some 57, op := Op.load 24 (Operand.tmp 3), type := 24, pos := "outright.go:56", after := af, guard := some (12, false) }) #[{ on := 12, ground := Ground.guard }] (by kernel_rfl) [12] (by kernel_rfl) fun af v W hb hd => ?_
    have d12 : v 12 = (Value.bool false) := hd 12 (by decide)
    have e3 := (Reg.gfr_eval0 (ops := (Reg.opsOf Try.f3 5)) (a0 := a0) (v := v) (L := [12]) 3 (by kernel_rfl)).trans i3
    have e55 := (Reg.gfr_eval (ops := (Reg.opsOf Try.f3 5)) (a0 := a0) (v := v) (L := [12]) 55 12 (by kernel_rfl) (by rw [hsz]; omega)).trans d12
    refine ⟨Reg.wanted_of rfl (by kernel_rfl) e55, ?_⟩
    generalize Reg.gfr (Reg.opsOf Try.f3 5) a0 v [12] = G at e3 ⊢
    generalize hρ : G.eval = ρ at e3
    have hρ' : G.eval = ρ := hρ
    exact fun K hK => wp_load_row 24 (.tmp 3) rfl ga (by rw [hρ']; exact e3) 24 (vC a) (0, 0) _ (M_ga W hb) Try.underlying24 rfl (vec_size ha) (hK _ _ ⟨Below.refl _ _, rfl⟩)
  have h15 : Reg.OpOK Try.prog (Reg.opsOf Try.f3 5) a0 w0 (lattice5_ffR a b c u l ga gb gc gu gl q s) (fun _ _ _ _ => True) 15 := by
    refine Reg.op_ok2 (fun af => { dst := some 58, op := Op.call { callee := Callee.value (Operand.func 13), args := #[Operand.tmp 56, Operand.tmp 57], argTypes := #[24, 24] }, type := 4, pos := "outright.go:56", after := af, guard := some (12, false) }) #[{ on := 13, ground := Ground.data }, { on := 14, ground := Ground.data }, { on := 12, ground := Ground.chain }, { on := 12, ground := Ground.guard }] (by kernel_rfl) [13, 14, 12, 12] (by kernel_rfl) fun af v W hb hd => ?_
    have d12 : v 12 = (Value.bool false) := hd 12 (by decide)
    have d13 : v 13 = (Value.agg (vC c)) := hd 13 (by decide)
    have d14 : v 14 = (Value.agg (vC a)) := hd 14 (by decide)
    have e56 := (Reg.gfr_eval (ops := (Reg.opsOf Try.f3 5)) (a0 := a0) (v := v) (L := [13, 14, 12, 12]) 56 13 (by kernel_rfl) (by rw [hsz]; omega)).trans d13
    have e57 := (Reg.gfr_eval (ops := (Reg.opsOf Try.f3 5)) (a0 := a0) (v := v) (L := [13, 14, 12, 12]) 57 14 (by kernel_rfl) (by rw [hsz]; omega)).trans d14
    have e55 := (Reg.gfr_eval (ops := (Reg.opsOf Try.f3 5)) (a0 := a0) (v := v) (L := [13, 14, 12, 12]) 55 12 (by kernel_rfl) (by rw [hsz]; omega)).trans d12
    refine ⟨Reg.wanted_of rfl (by kernel_rfl) e55, ?_⟩
    have eF : ∀ f, (Reg.gfr (Reg.opsOf Try.f3 5) a0 v [13, 14, 12, 12]).eval (.func f) = .func (.func f) #[] #[] := fun _ => rfl
    generalize Reg.gfr (Reg.opsOf Try.f3 5) a0 v [13, 14, 12, 12] = G at e56 e57 eF ⊢
    generalize hρ : G.eval = ρ at e56 e57 eF
    have hρ' : G.eval = ρ := hρ
    refine Reg.go_call 13 #[(Value.agg (vC c)), (Value.agg (vC a))] (by rw [hρ']; simp [execOp, go_sem, e56, e57, eF]) ((atmost_any c a hc ha W).mono fun e w' he => ?_)
    obtain ⟨rfl, hbb⟩ := he
    exact ⟨_, rfl, hbb, (show _ = _ from by rw [f4])⟩
  have h16 : Reg.OpOK Try.prog (Reg.opsOf Try.f3 5) a0 w0 (lattice5_ffR a b c u l ga gb gc gu gl q s) (fun _ _ _ _ => True) 16 := by
    refine Reg.op_ok2 (fun af => { dst := some 59, op := Op.move (Operand.tmp 58), type := 4, pos := "outright.go:56", after := af, guard := some (12, false) }) #[{ on := 15, ground := Ground.data }, { on := 15, ground := Ground.chain }, { on := 12, ground := Ground.guard }] (by kernel_rfl) [15, 15, 12] (by kernel_rfl) fun af v W hb hd => ?_
    have d12 : v 12 = (Value.bool false) := hd 12 (by decide)
    have d15 : v 15 = (Value.bool false) := hd 15 (by decide)
    have e58 := (Reg.gfr_eval (ops := (Reg.opsOf Try.f3 5)) (a0 := a0) (v := v) (L := [15, 15, 12]) 58 15 (by kernel_rfl) (by rw [hsz]; omega)).trans d15
    have e55 := (Reg.gfr_eval (ops := (Reg.opsOf Try.f3 5)) (a0 := a0) (v := v) (L := [15, 15, 12]) 55 12 (by kernel_rfl) (by rw [hsz]; omega)).trans d12
    refine ⟨Reg.wanted_of rfl (by kernel_rfl) e55, ?_⟩
    generalize Reg.gfr (Reg.opsOf Try.f3 5) a0 v [15, 15, 12] = G at e58 ⊢
    generalize hρ : G.eval = ρ at e58
    have hρ' : G.eval = ρ := hρ
    refine Reg.go_run (Value.bool false) W ?_ ?_
    · rw [hρ']; simp [execOp, go_sem, e58]
    · exact ⟨Below.refl _ _, rfl⟩
  have h17 : Reg.OpOK Try.prog (Reg.opsOf Try.f3 5) a0 w0 (lattice5_ffR a b c u l ga gb gc gu gl q s) (fun _ _ _ _ => True) 17 := by
    refine Reg.op_no2 (fun af => { dst := some 60, op := Op.load 24 (Operand.tmp 5), type := 24, pos := "outright.go:56", after := af, guard := some (16, true) }) #[{ on := 16, ground := Ground.guard }] (by kernel_rfl) [16] (by kernel_rfl) fun af v W hb hd => ?_
    have d16 : v 16 = (Value.bool false) := hd 16 (by decide)
    have e59 := (Reg.gfr_eval (ops := (Reg.opsOf Try.f3 5)) (a0 := a0) (v := v) (L := [16]) 59 16 (by kernel_rfl) (by rw [hsz]; omega)).trans d16
    exact ⟨Reg.wanted_not rfl (by kernel_rfl) e59, rfl, fun _ _ _ _ => ⟨trivial, trivial⟩⟩
  have h18 : Reg.OpOK Try.prog (Reg.opsOf Try.f3 5) a0 w0 (lattice5_ffR a b c u l ga gb gc gu gl q s) (fun _ _ _ _ => True) 18 := by
    refine Reg.op_no2 (fun af => { dst := some 61, op := Op.load 24 (Operand.tmp 4), type := 24, pos := "outright.go:56", after := af, guard := some (16, true) }) #[{ on := 16, ground := Ground.guard }] (by kernel_rfl) [16] (by kernel_rfl) fun af v W hb hd => ?_
    have d16 : v 16 = (Value.bool false) := hd 16 (by decide)
    have e59 := (Reg.gfr_eval (ops := (Reg.opsOf Try.f3 5)) (a0 := a0) (v := v) (L := [16]) 59 16 (by kernel_rfl) (by rw [hsz]; omega)).trans d16
    exact ⟨Reg.wanted_not rfl (by kernel_rfl) e59, rfl, fun _ _ _ _ => ⟨trivial, trivial⟩⟩
  have h19 : Reg.OpOK Try.prog (Reg.opsOf Try.f3 5) a0 w0 (lattice5_ffR a b c u l ga gb gc gu gl q s) (fun _ _ _ _ => True) 19 := by
    refine Reg.op_no2 (fun af => { dst := some 62, op := Op.call { callee := Callee.value (Operand.func 13), args := #[Operand.tmp 60, Operand.tmp 61], argTypes := #[24, 24] }, type := 4, pos := "outright.go:56", after := af, guard := some (16, true) }) #[{ on := 17, ground := Ground.data }, { on := 18, ground := Ground.data }, { on := 16, ground := Ground.chain }, { on := 16, ground := Ground.guard }] (by kernel_rfl) [17, 18, 16, 16] (by kernel_rfl) fun af v W hb hd => ?_
    have d16 : v 16 = (Value.bool false) := hd 16 (by decide)
    have e59 := (Reg.gfr_eval (ops := (Reg.opsOf Try.f3 5)) (a0 := a0) (v := v) (L := [17, 18, 16, 16]) 59 16 (by kernel_rfl) (by rw [hsz]; omega)).trans d16
    exact ⟨Reg.wanted_not rfl (by kernel_rfl) e59, rfl, fun _ _ _ _ => ⟨trivial, trivial⟩⟩
  have h20 : Reg.OpOK Try.prog (Reg.opsOf Try.f3 5) a0 w0 (lattice5_ffR a b c u l ga gb gc gu gl q s) (fun _ _ _ _ => True) 20 := by
    refine Reg.op_ok2 (fun af => { dst := some 63, op := Op.pick (Operand.tmp 59) (Operand.tmp 62) (Operand.const (Value.bool false)), type := 4, pos := "outright.go:56", after := af, guard := some (12, false) }) #[{ on := 16, ground := Ground.data }, { on := 19, ground := Ground.data }, { on := 12, ground := Ground.guard }] (by kernel_rfl) [16, 19, 12] (by kernel_rfl) fun af v W hb hd => ?_
    have d12 : v 12 = (Value.bool false) := hd 12 (by decide)
    have d16 : v 16 = (Value.bool false) := hd 16 (by decide)
    have d19 : v 19 = undef := hd 19 (by decide)
    have e59 := (Reg.gfr_eval (ops := (Reg.opsOf Try.f3 5)) (a0 := a0) (v := v) (L := [16, 19, 12]) 59 16 (by kernel_rfl) (by rw [hsz]; omega)).trans d16
    have e62 := (Reg.gfr_eval (ops := (Reg.opsOf Try.f3 5)) (a0 := a0) (v := v) (L := [16, 19, 12]) 62 19 (by kernel_rfl) (by rw [hsz]; omega)).trans d19
    have e55 := (Reg.gfr_eval (ops := (Reg.opsOf Try.f3 5)) (a0 := a0) (v := v) (L := [16, 19, 12]) 55 12 (by kernel_rfl) (by rw [hsz]; omega)).trans d12
    refine ⟨Reg.wanted_of rfl (by kernel_rfl) e55, ?_⟩
    have eC : ∀ x, (Reg.gfr (Reg.opsOf Try.f3 5) a0 v [16, 19, 12]).eval (.const x) = x := fun _ => rfl
    generalize Reg.gfr (Reg.opsOf Try.f3 5) a0 v [16, 19, 12] = G at e59 e62 eC ⊢
    generalize hρ : G.eval = ρ at e59 e62 eC
    have hρ' : G.eval = ρ := hρ
    refine Reg.go_run (Value.bool false) W ?_ ?_
    · rw [hρ']; simp [execOp, go_sem, e59, e62, eC]
    · exact ⟨Below.refl _ _, rfl⟩
  have h21 : Reg.OpOK Try.prog (Reg.opsOf Try.f3 5) a0 w0 (lattice5_ffR a b c u l ga gb gc gu gl q s) (fun _ _ _ _ => True) 21 := by
    refine Reg.op_ok2 (fun af => { dst := some 64, op := Op.load 24 (Operand.tmp 5), type := 24, pos := "outright.go:56", after := af, guard := some (12, false) }) #[{ on := 12, ground := Ground.guard }] (by kernel_rfl) [12] (by kernel_rfl) fun af v W hb hd => ?_
    have d12 : v 12 = (Value.bool false) := hd 12 (by decide)
    have e5 := (Reg.gfr_eval0 (ops := (Reg.opsOf Try.f3 5)) (a0 := a0) (v := v) (L := [12]) 5 (by kernel_rfl)).trans i5
    have e55 := (Reg.gfr_eval (ops := (Reg.opsOf Try.f3 5)) (a0 := a0) (v := v) (L := [12]) 55 12 (by kernel_rfl) (by rw [hsz]; omega)).trans d12
    refine ⟨Reg.wanted_of rfl (by kernel_rfl) e55, ?_⟩
    generalize Reg.gfr (Reg.opsOf Try.f3 5) a0 v [12] = G at e5 ⊢
    generalize hρ : G.eval = ρ at e5
    have hρ' : G.eval = ρ := hρ
    exact fun K hK => wp_load_row 24 (.tmp 5) rfl gc (by rw [hρ']; exact e5) 24 (vC c) (0, 0) _ (M_gc W hb) Try.underlying24 rfl (vec_size hc) (hK _ _ ⟨Below.refl _ _, rfl⟩)
  have h22 : Reg.OpOK Try.prog (Reg.opsOf Try.f3 5) a0 w0 (lattice5_ffR a b c u l ga gb gc gu gl q s) (fun _ _ _ _ => True) 22 := by
    refine Reg.op_ok2 (fun af => { dst := some 65, op := Op.load 24 (Operand.tmp 9), type := 24, pos := "outright.go:56", after := af, guard := some (12, false) }) #[{ on := 12, ground := Ground.guard }] (by kernel_rfl) [12] (by kernel_rfl) fun af v W hb hd => ?_
    have d12 : v 12 = (Value.bool false) := hd 12 (by decide)
    have e9 := (Reg.gfr_eval0 (ops := (Reg.opsOf Try.f3 5)) (a0 := a0) (v := v) (L := [12]) 9 (by kernel_rfl)).trans i9
    have e55 := (Reg.gfr_eval (ops := (Reg.opsOf Try.f3 5)) (a0 := a0) (v := v) (L := [12]) 55 12 (by kernel_rfl) (by rw [hsz]; omega)).trans d12
    refine ⟨Reg.wanted_of rfl (by kernel_rfl) e55, ?_⟩
    generalize Reg.gfr (Reg.opsOf Try.f3 5) a0 v [12] = G at e9 ⊢
    generalize hρ : G.eval = ρ at e9
    have hρ' : G.eval = ρ := hρ
    exact fun K hK => wp_load_row 24 (.tmp 9) rfl gl (by rw [hρ']; exact e9) 24 (vC l) (0, 0) _ (M_gl W hb) Try.underlying24 rfl (vec_size hl) (hK _ _ ⟨Below.refl _ _, rfl⟩)
  have h23 : Reg.OpOK Try.prog (Reg.opsOf Try.f3 5) a0 w0 (lattice5_ffR a b c u l ga gb gc gu gl q s) (fun _ _ _ _ => True) 23 := by
    refine Reg.op_ok2 (fun af => { dst := some 66, op := Op.call { callee := Callee.value (Operand.func 13), args := #[Operand.tmp 64, Operand.tmp 65], argTypes := #[24, 24] }, type := 4, pos := "outright.go:56", after := af, guard := some (12, false) }) #[{ on := 21, ground := Ground.data }, { on := 22, ground := Ground.data }, { on := 19, ground := Ground.chain }, { on := 12, ground := Ground.guard }] (by kernel_rfl) [21, 22, 19, 12] (by kernel_rfl) fun af v W hb hd => ?_
    have d12 : v 12 = (Value.bool false) := hd 12 (by decide)
    have d21 : v 21 = (Value.agg (vC c)) := hd 21 (by decide)
    have d22 : v 22 = (Value.agg (vC l)) := hd 22 (by decide)
    have e64 := (Reg.gfr_eval (ops := (Reg.opsOf Try.f3 5)) (a0 := a0) (v := v) (L := [21, 22, 19, 12]) 64 21 (by kernel_rfl) (by rw [hsz]; omega)).trans d21
    have e65 := (Reg.gfr_eval (ops := (Reg.opsOf Try.f3 5)) (a0 := a0) (v := v) (L := [21, 22, 19, 12]) 65 22 (by kernel_rfl) (by rw [hsz]; omega)).trans d22
    have e55 := (Reg.gfr_eval (ops := (Reg.opsOf Try.f3 5)) (a0 := a0) (v := v) (L := [21, 22, 19, 12]) 55 12 (by kernel_rfl) (by rw [hsz]; omega)).trans d12
    refine ⟨Reg.wanted_of rfl (by kernel_rfl) e55, ?_⟩
    have eF : ∀ f, (Reg.gfr (Reg.opsOf Try.f3 5) a0 v [21, 22, 19, 12]).eval (.func f) = .func (.func f) #[] #[] := fun _ => rfl
    generalize Reg.gfr (Reg.opsOf Try.f3 5) a0 v [21, 22, 19, 12] = G at e64 e65 eF ⊢
    generalize hρ : G.eval = ρ at e64 e65 eF
    have hρ' : G.eval = ρ := hρ
    refine Reg.go_call 13 #[(Value.agg (vC c)), (Value.agg (vC l))] (by rw [hρ']; simp [execOp, go_sem, e64, e65, eF]) ((atmost_any c l hc hl W).mono fun e w' he => ?_)
    obtain ⟨rfl, hbb⟩ := he
    exact ⟨_, rfl, hbb, (show _ = _ from by rw [f6])⟩
  have h24 : Reg.OpOK Try.prog (Reg.opsOf Try.f3 5) a0 w0 (lattice5_ffR a b c u l ga gb gc gu gl q s) (fun _ _ _ _ => True) 24 := by
    refine Reg.op_ok2 (fun af => { dst := some 67, op := Op.binOp BinOp.neq 4 (Operand.tmp 63) (Operand.tmp 66) 4, type := 4, pos := "outright.go:56", after := af, guard := some (12, false) }) #[{ on := 20, ground := Ground.data }, { on := 23, ground := Ground.data }, { on := 12, ground := Ground.guard }] (by kernel_rfl) [20, 23, 12] (by kernel_rfl) fun af v W hb hd => ?_
    have d12 : v 12 = (Value.bool false) := hd 12 (by decide)
    have d20 : v 20 = (Value.bool false) := hd 20 (by decide)
    have d23 : v 23 = (Value.bool false) := hd 23 (by decide)
    have e63 := (Reg.gfr_eval (ops := (Reg.opsOf Try.f3 5)) (a0 := a0) (v := v) (L := [20, 23, 12]) 63 20 (by kernel_rfl) (by rw [hsz]; omega)).trans d20
    have e66 := (Reg.gfr_eval (ops := (Reg.opsOf Try.f3 5)) (a0 := a0) (v := v) (L := [20, 23, 12]) 66 23 (by kernel_rfl) (by rw [hsz]; omega)).trans d23
    have e55 := (Reg.gfr_eval (ops := (Reg.opsOf Try.f3 5)) (a0 := a0) (v := v) (L := [20, 23, 12]) 55 12 (by kernel_rfl) (by rw [hsz]; omega)).trans d12
    refine ⟨Reg.wanted_of rfl (by kernel_rfl) e55, ?_⟩
    generalize Reg.gfr (Reg.opsOf Try.f3 5) a0 v [20, 23, 12] = G at e63 e66 ⊢
    generalize hρ : G.eval = ρ at e63 e66
    have hρ' : G.eval = ρ := hρ
    refine Reg.go_run (Value.bool false) W ?_ ?_
    · rw [hρ']; simp [execOp, go_sem, e63, e66]
    · exact ⟨Below.refl _ _, rfl⟩
  have h25 : Reg.OpOK Try.prog (Reg.opsOf Try.f3 5) a0 w0 (lattice5_ffR a b c u l ga gb gc gu gl q s) (fun _ _ _ _ => True) 25 := by
    refine Reg.op_ok2 (fun af => { dst := some 68, op := Op.pick (Operand.tmp 55) (Operand.const (Value.bool true)) (Operand.tmp 67), type := 4, pos := "outright.go:56", after := af, guard := none }) #[{ on := 12, ground := Ground.data }, { on := 24, ground := Ground.data }] (by kernel_rfl) [12, 24] (by kernel_rfl) fun af v W hb hd => ?_
    have d12 : v 12 = (Value.bool false) := hd 12 (by decide)
    have d24 : v 24 = (Value.bool false) := hd 24 (by decide)
    have e55 := (Reg.gfr_eval (ops := (Reg.opsOf Try.f3 5)) (a0 := a0) (v := v) (L := [12, 24]) 55 12 (by kernel_rfl) (by rw [hsz]; omega)).trans d12
    have e67 := (Reg.gfr_eval (ops := (Reg.opsOf Try.f3 5)) (a0 := a0) (v := v) (L := [12, 24]) 67 24 (by kernel_rfl) (by rw [hsz]; omega)).trans d24
    refine ⟨Reg.wanted_none rfl, ?_⟩
    have eC : ∀ x, (Reg.gfr (Reg.opsOf Try.f3 5) a0 v [12, 24]).eval (.const x) = x := fun _ => rfl
    generalize Reg.gfr (Reg.opsOf Try.f3 5) a0 v [12, 24] = G at e55 e67 eC ⊢
    generalize hρ : G.eval = ρ at e55 e67 eC
    have hρ' : G.eval = ρ := hρ
    refine Reg.go_run (Value.bool false) W ?_ ?_
    · rw [hρ']; simp [execOp, go_sem, e55, e67, eC]
    · exact ⟨Below.refl _ _, rfl⟩
  refine Reg.region_all (by kernel_rfl) (lattice5_ffR a b c u l ga gb gc gu gl q s) (by rw [hn, hsz]; kernel_rfl) (lattice5_ff_stable a b c u l ga gb gc gu gl q s) (fun i hi => ?_) (fun v w hb hR => ?_)
  · rw [hn] at hi
    match i, List.mem_range.1 hi with
    | 0, _ => exact h0
    | 1, _ => exact h1
    | 2, _ => exact h2
    | 3, _ => exact h3
    | 4, _ => exact h4
    | 5, _ => exact h5
    | 6, _ => exact h6
    | 7, _ => exact h7
    | 8, _ => exact h8
    | 9, _ => exact h9
    | 10, _ => exact h10
    | 11, _ => exact h11
    | 12, _ => exact h12
    | 13, _ => exact h13
    | 14, _ => exact h14
    | 15, _ => exact h15
    | 16, _ => exact h16
    | 17, _ => exact h17
    | 18, _ => exact h18
    | 19, _ => exact h19
    | 20, _ => exact h20
    | 21, _ => exact h21
    | 22, _ => exact h22
    | 23, _ => exact h23
    | 24, _ => exact h24
    | 25, _ => exact h25
    | (_ + 26), h => omega
  · rw [hn] at hR ⊢
    have v0 : v 0 = (Value.agg (vC a)) := hR 0 (by decide)
    have v1 : v 1 = (Value.agg (vC c)) := hR 1 (by decide)
    have v2 : v 2 = (Value.bool false) := hR 2 (by decide)
    have v3 : v 3 = (Value.bool false) := hR 3 (by decide)
    have v4 : v 4 = undef := hR 4 (by decide)
    have v5 : v 5 = undef := hR 5 (by decide)
    have v6 : v 6 = undef := hR 6 (by decide)
    have v7 : v 7 = (Value.bool false) := hR 7 (by decide)
    have v8 : v 8 = (Value.agg (vC u)) := hR 8 (by decide)
    have v9 : v 9 = (Value.agg (vC c)) := hR 9 (by decide)
    have v10 : v 10 = (Value.bool false) := hR 10 (by decide)
    have v11 : v 11 = (Value.bool false) := hR 11 (by decide)
    have v12 : v 12 = (Value.bool false) := hR 12 (by decide)
    have v13 : v 13 = (Value.agg (vC c)) := hR 13 (by decide)
    have v14 : v 14 = (Value.agg (vC a)) := hR 14 (by decide)
    have v15 : v 15 = (Value.bool false) := hR 15 (by decide)
    have v16 : v 16 = (Value.bool false) := hR 16 (by decide)
    have v17 : v 17 = undef := hR 17 (by decide)
    have v18 : v 18 = undef := hR 18 (by decide)
    have v19 : v 19 = undef := hR 19 (by decide)
    have v20 : v 20 = (Value.bool false) := hR 20 (by decide)
    have v21 : v 21 = (Value.agg (vC c)) := hR 21 (by decide)
    have v22 : v 22 = (Value.agg (vC l)) := hR 22 (by decide)
    have v23 : v 23 = (Value.bool false) := hR 23 (by decide)
    have v24 : v 24 = (Value.bool false) := hR 24 (by decide)
    have v25 : v 25 = (Value.bool false) := hR 25 (by decide)
    rw [hfin v, v0, v1, v2, v3, v4, v5, v6, v7, v8, v9, v10, v11, v12, v13, v14, v15, v16, v17, v18, v19, v20, v21, v22, v23, v24, v25]
    exact hend w  hb 
end Go.Proofs.Ytfifbjlmbdgmjaa
