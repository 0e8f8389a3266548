/- Regions that draw their order: their obligations (printed by regen2.py). -/
import Derived.Test.YtfifbjlmbdgmjaaVecO
import Derived.Test.YtfifbjlmbdgmjaaRegS
namespace Go.Proofs.Ytfifbjlmbdgmjaa
open Go.RowKit
def lattice2R (a b u l : List Nat) (ga gb : Nat) (Z : Array Value) (B : Nat) : Nat → Value → World → Prop
  | 0 => fun x_ _ => x_ = (Value.agg (vC a))
  | 1 => fun x_ _ => x_ = (Value.agg (vC b))
  | 2 => Reg.IsRow 24 (vecs [a, b]).toArray 2
  | 3 => fun x_ _ => x_ = (Value.agg (vC u))
  | 4 => fun x_ _ => x_ = (Value.agg (vC a))
  | 5 => fun x_ _ => x_ = (Value.agg (vC b))
  | 6 => Reg.IsRow 24 (vecs [a, b]).toArray 2
  | 7 => fun x_ _ => x_ = (Value.agg (vC l))
  | 8 => Reg.IsCell B 24 Z
  | 9 => Reg.IsCell B 24 Z
  | _ => fun _ _ => True
theorem lattice2_stable (a b u l : List Nat) (ga gb : Nat) (Z : Array Value) (B : Nat) : ∀ i_ u_ w_ w_', (lattice2R a b u l ga gb Z B) i_ u_ w_ → Below w_.heap.size w_ w_' → (lattice2R a b u l ga gb Z B) i_ u_ w_' := fun i_ u_ w_ w_' h_ hb_ => by
  match i_, h_ with
  | 0, h_ => exact h_
  | 1, h_ => exact h_
  | 2, h_ => exact (Reg.IsRow.below h_ hb_)
  | 3, h_ => exact h_
  | 4, h_ => exact h_
  | 5, h_ => exact h_
  | 6, h_ => exact (Reg.IsRow.below h_ hb_)
  | 7, h_ => exact h_
  | 8, h_ => exact (Reg.IsCell.below h_ hb_)
  | 9, h_ => exact (Reg.IsCell.below h_ hb_)
  | 10, h_ => exact h_
  | 11, h_ => exact h_
  | (_ + 12), _ => trivial
set_option maxHeartbeats 4000000 in
set_option maxRecDepth 20000 in
theorem lattice2 (a b u l : List Nat) (ga gb : Nat) (Z : Array Value) (w0 : World) {s0 s1 s2 s5 s6 s7 s8 s9 s10 s11 s12 s13 s14 s15 s16 s17 s18 s19 s20 s21 s22 s23 s24 s25 s26 s27 s28 s29 s30 s31 s32 s33 s34 s35 s36 s37 s38 s39 s40 s41 s42 s43 s44 s45 s46 s47 s48 s49 s50 s51 s52 s53 s54 s55 s56 s57 s58 s59 s60 s61 s62 s63 s64 s65 s66 s67 s68 s69 s70 s71 s72 s73 s74 s75 s76 s77 s78 s79 s80 s81 s82 s83 s84 s85 s86 s87 s88 s89 s90 s91 s92 s93 s94 s95 s96 s97 s98 s99 s100 s101 s102 s103 s104 s105 s106 s107 s108 s109 s110 s111 s112 s113 s114 s115 s116 s117 s118 s119 s120 s121 s122 s123 s124 s125 s126 s127 s128 s129 s130 s131 s132 s133 s134 s135 s136 s137 s138 s139 s140 : Value}
    (ha : a.length = 16) (hb' : b.length = 16) (hu : u.length = 16) (hl : l.length = 16) (m1 : maxV a b = u) (m2 : minV a b = l) (hz0 : (Try.prog.info? 24).bind (fun i => i.zero.map Value.cells) = some Z) (hZs : Z.size = 16)
    (M_ga : ∀ W, Below w0.heap.size w0 W → W.heap[ga]? = some (.cells (vC a) 24 (0, 0)))
    (M_gb : ∀ W, Below w0.heap.size w0 W → W.heap[gb]? = some (.cells (vC b) 24 (0, 0)))
    {Q : Exit → Act → World → Prop}
    (hend : ∀ (w : World) (p8 : Nat) (p9 : Nat) (r15 r19 : Value), Below w0.heap.size w0 w → w0.heap.size ≤ p8 → w.heap[p8]? = some (.cells (vC u) 24 (0, 0)) → w0.heap.size ≤ p9 → w.heap[p9]? = some (.cells (vC l) 24 (0, 0)) → p8 ≠ p9 → Q .normal { tmps := #[s0, s1, s2, (Value.pointer (some ⟨ga, 0, none⟩)), (Value.pointer (some ⟨gb, 0, none⟩)), s5, s6, s7, (Value.pointer (some ⟨p8, 0, none⟩)), (Value.pointer (some ⟨p9, 0, none⟩)), s10, s11, s12, (Value.agg (vC a)), (Value.agg (vC b)), r15, (Value.agg (vC u)), (Value.agg (vC a)), (Value.agg (vC b)), r19, (Value.agg (vC l)), s21, s22, s23, s24, s25, s26, s27, s28, s29, s30, s31, s32, s33, s34, s35, s36, s37, s38, s39, s40, s41, s42, s43, s44, s45, s46, s47, s48, s49, s50, s51, s52, s53, s54, s55, s56, s57, s58, s59, s60, s61, s62, s63, s64, s65, s66, s67, s68, s69, s70, s71, s72, s73, s74, s75, s76, s77, s78, s79, s80, s81, s82, s83, s84, s85, s86, s87, s88, s89, s90, s91, s92, s93, s94, s95, s96, s97, s98, s99, s100, s101, s102, s103, s104, s105, s106, s107, s108, s109, s110, s111, s112, s113, s114, s115, s116, s117, s118, s119, s120, s121, s122, s123, s124, s125, s126, s127, s128, s129, s130, s131, s132, s133, s134, s135, s136, s137, s138, s139, s140], defers := [] } w) :
    (Code.region 2 (Reg.opsOf Try.f3 2) true).wp Try.prog Q { tmps := #[s0, s1, s2, (Value.pointer (some ⟨ga, 0, none⟩)), (Value.pointer (some ⟨gb, 0, none⟩)), s5, s6, s7, s8, s9, s10, s11, s12, s13, s14, s15, s16, s17, s18, s19, s20, s21, s22, s23, s24, s25, s26, s27, s28, s29, s30, s31, s32, s33, s34, s35, s36, s37, s38, s39, s40, s41, s42, s43, s44, s45, s46, s47, s48, s49, s50, s51, s52, s53, s54, s55, s56, s57, s58, s59, s60, s61, s62, s63, s64, s65, s66, s67, s68, s69, s70, s71, s72, s73, s74, s75, s76, s77, s78, s79, s80, s81, s82, s83, s84, s85, s86, s87, s88, s89, s90, s91, s92, s93, s94, s95, s96, s97, s98, s99, s100, s101, s102, s103, s104, s105, s106, s107, s108, s109, s110, s111, s112, s113, s114, s115, s116, s117, s118, s119, s120, s121, s122, s123, s124, s125, s126, s127, s128, s129, s130, s131, s132, s133, s134, s135, s136, s137, s138, s139, s140], defers := [] } w0 := by
  obtain ⟨a0, ha0⟩ : ∃ a0 : Act, a0 = { tmps := #[s0, s1, s2, (Value.pointer (some ⟨ga, 0, none⟩)), (Value.pointer (some ⟨gb, 0, none⟩)), s5, s6, s7, s8, s9, s10, s11, s12, s13, s14, s15, s16, s17, s18, s19, s20, s21, s22, s23, s24, s25, s26, s27, s28, s29, s30, s31, s32, s33, s34, s35, s36, s37, s38, s39, s40, s41, s42, s43, s44, s45, s46, s47, s48, s49, s50, s51, s52, s53, s54, s55, s56, s57, s58, s59, s60, s61, s62, s63, s64, s65, s66, s67, s68, s69, s70, s71, s72, s73, s74, s75, s76, s77, s78, s79, s80, s81, s82, s83, s84, s85, s86, s87, s88, s89, s90, s91, s92, s93, s94, s95, s96, s97, s98, s99, s100, s101, s102, s103, s104, s105, s106, s107, s108, s109, s110, s111, s112, s113, s114, s115, s116, s117, s118, s119, s120, s121, s122, s123, s124, s125, s126, s127, s128, s129, s130, s131, s132, s133, s134, s135, s136, s137, s138, s139, s140], defers := [] } := ⟨_, rfl⟩
  have hfin : ∀ v : Nat → Value, Reg.gfr (Reg.opsOf Try.f3 2) a0 v [0, 1, 2, 3, 4, 5, 6, 7, 8, 9] = { tmps := #[s0, s1, s2, (Value.pointer (some ⟨ga, 0, none⟩)), (Value.pointer (some ⟨gb, 0, none⟩)), s5, s6, s7, v 8, v 9, s10, s11, s12, v 0, v 1, v 2, v 3, v 4, v 5, v 6, v 7, s21, s22, s23, s24, s25, s26, s27, s28, s29, s30, s31, s32, s33, s34, s35, s36, s37, s38, s39, s40, s41, s42, s43, s44, s45, s46, s47, s48, s49, s50, s51, s52, s53, s54, s55, s56, s57, s58, s59, s60, s61, s62, s63, s64, s65, s66, s67, s68, s69, s70, s71, s72, s73, s74, s75, s76, s77, s78, s79, s80, s81, s82, s83, s84, s85, s86, s87, s88, s89, s90, s91, s92, s93, s94, s95, s96, s97, s98, s99, s100, s101, s102, s103, s104, s105, s106, s107, s108, s109, s110, s111, s112, s113, s114, s115, s116, s117, s118, s119, s120, s121, s122, s123, s124, s125, s126, s127, s128, s129, s130, s131, s132, s133, s134, s135, s136, s137, s138, s139, s140], defers := [] } := fun v => by rw [ha0]; kernel_rfl
  rw [← ha0]
  have i3 : a0.eval (.tmp 3) = (Value.pointer (some ⟨ga, 0, none⟩)) := by rw [ha0]; rfl
  have i4 : a0.eval (.tmp 4) = (Value.pointer (some ⟨gb, 0, none⟩)) := by rw [ha0]; rfl
  have hsz : a0.tmps.size = 141 := by rw [ha0]; rfl
  clear ha0
  have hn : (Reg.opsOf Try.f3 2).size = 12 := by kernel_rfl
  have h0 : Reg.OpOK Try.prog (Reg.opsOf Try.f3 2) a0 w0 (lattice2R a b u l ga gb Z w0.heap.size) (fun i_ j_ u_ x_ => i_ ∈ [8, 9] → j_ ∈ [8, 9] → i_ ≠ j_ → u_ ≠ x_) 0 := by
    refine Reg.op_okD2 (fun af => { dst := some 13, op := Op.load 24 (Operand.tmp 3), type := 24, pos := "outright.go:52", after := af, guard := none }) #[] (by kernel_rfl) [] (by kernel_rfl) fun af v W hb hd => ?_
    have e3 := (Reg.gfr_eval0 (ops := (Reg.opsOf Try.f3 2)) (a0 := a0) (v := v) (L := []) 3 (by kernel_rfl)).trans i3
    refine ⟨Reg.wanted_none rfl, ?_⟩
    generalize Reg.gfr (Reg.opsOf Try.f3 2) a0 v [] = G at e3 ⊢
    generalize hρ : G.eval = ρ at e3
    have hρ' : G.eval = ρ := hρ
    exact fun K hK => wp_load_row 24 (.tmp 3) rfl ga (by rw [hρ']; exact e3) 24 (vC a) (0, 0) _ (M_ga W hb) Try.underlying24 rfl (vec_size ha) (hK _ _ ⟨Below.refl _ _, rfl, fun j_ x_ hj_ hx_ => ⟨fun h => absurd h (by decide), fun _ h => absurd h (by decide)⟩⟩)
  have h1 : Reg.OpOK Try.prog (Reg.opsOf Try.f3 2) a0 w0 (lattice2R a b u l ga gb Z w0.heap.size) (fun i_ j_ u_ x_ => i_ ∈ [8, 9] → j_ ∈ [8, 9] → i_ ≠ j_ → u_ ≠ x_) 1 := by
    refine Reg.op_okD2 (fun af => { dst := some 14, op := Op.load 24 (Operand.tmp 4), type := 24, pos := "outright.go:52", after := af, guard := none }) #[] (by kernel_rfl) [] (by kernel_rfl) fun af v W hb hd => ?_
    have e4 := (Reg.gfr_eval0 (ops := (Reg.opsOf Try.f3 2)) (a0 := a0) (v := v) (L := []) 4 (by kernel_rfl)).trans i4
    refine ⟨Reg.wanted_none rfl, ?_⟩
    generalize Reg.gfr (Reg.opsOf Try.f3 2) a0 v [] = G at e4 ⊢
    generalize hρ : G.eval = ρ at e4
    have hρ' : G.eval = ρ := hρ
    exact fun K hK => wp_load_row 24 (.tmp 4) rfl gb (by rw [hρ']; exact e4) 24 (vC b) (0, 0) _ (M_gb W hb) Try.underlying24 rfl (vec_size hb') (hK _ _ ⟨Below.refl _ _, rfl, fun j_ x_ hj_ hx_ => ⟨fun h => absurd h (by decide), fun _ h => absurd h (by decide)⟩⟩)
  have h2 : Reg.OpOK Try.prog (Reg.opsOf Try.f3 2) a0 w0 (lattice2R a b u l ga gb Z w0.heap.size) (fun i_ j_ u_ x_ => i_ ∈ [8, 9] → j_ ∈ [8, 9] → i_ ≠ j_ → u_ ≠ x_) 2 := by
    refine Reg.op_okD2 (fun af => { dst := some 15, op := Op.buildSlice 43 2 #[(0, Operand.tmp 13), (1, Operand.tmp 14)], type := 43, pos := "outright.go:52", after := af, guard := none }) #[{ on := 0, ground := Ground.data }, { on := 1, ground := Ground.data }] (by kernel_rfl) [0, 1] (by kernel_rfl) fun af v W hb hd => ?_
    have d0 : v 0 = (Value.agg (vC a)) := hd 0 (by decide)
    have d1 : v 1 = (Value.agg (vC b)) := hd 1 (by decide)
    have e13 := (Reg.gfr_eval (ops := (Reg.opsOf Try.f3 2)) (a0 := a0) (v := v) (L := [0, 1]) 13 0 (by kernel_rfl) (by rw [hsz]; omega)).trans d0
    have e14 := (Reg.gfr_eval (ops := (Reg.opsOf Try.f3 2)) (a0 := a0) (v := v) (L := [0, 1]) 14 1 (by kernel_rfl) (by rw [hsz]; omega)).trans d1
    refine ⟨Reg.wanted_none rfl, ?_⟩
    generalize Reg.gfr (Reg.opsOf Try.f3 2) a0 v [0, 1] = G at e13 e14 ⊢
    generalize hρ : G.eval = ρ at e13 e14
    have hρ' : G.eval = ρ := hρ
    exact Reg.go_build 43 24 2 _ rfl Try.underlying43 _ (by rw [hρ']; exact built_vecs [a, b] (by simp [ha, hb']) (by simp) (by simp) _ (by simp [e13, e14])) ⟨(Below.refl _ W).alloc (Nat.le_refl _) _, ⟨_, rfl, heap_alloc_new _ _⟩, fun j_ x_ hj_ hx_ => ⟨fun h => absurd h (by decide), fun _ h => absurd h (by decide)⟩⟩
  have h3 : Reg.OpOK Try.prog (Reg.opsOf Try.f3 2) a0 w0 (lattice2R a b u l ga gb Z w0.heap.size) (fun i_ j_ u_ x_ => i_ ∈ [8, 9] → j_ ∈ [8, 9] → i_ ≠ j_ → u_ ≠ x_) 3 := by
    refine Reg.op_okD2 (fun af => { dst := some 16, op := Op.call { callee := Callee.value (Operand.func 11), args := #[Operand.tmp 15], argTypes := #[43] }, type := 24, pos := "outright.go:52", after := af, guard := none }) #[{ on := 2, ground := Ground.data }] (by kernel_rfl) [2] (by kernel_rfl) fun af v W hb hd => ?_
    have d2 : (Reg.IsRow 24 (vecs [a, b]).toArray 2) (v 2) W := hd 2 (by decide)
    have e15 := Reg.gfr_eval (ops := (Reg.opsOf Try.f3 2)) (a0 := a0) (v := v) (L := [2]) 15 2 (by kernel_rfl) (by rw [hsz]; omega)
    obtain ⟨gr, hg1, hg2⟩ := d2
    rw [hg1] at e15
    refine ⟨Reg.wanted_none rfl, ?_⟩
    have eF : ∀ f, (Reg.gfr (Reg.opsOf Try.f3 2) a0 v [2]).eval (.func f) = .func (.func f) #[] #[] := fun _ => rfl
    generalize Reg.gfr (Reg.opsOf Try.f3 2) a0 v [2] = G at e15 eF ⊢
    generalize hρ : G.eval = ρ at e15 eF
    have hρ' : G.eval = ρ := hρ
    refine Reg.go_call 11 #[(Value.slice (some ⟨gr, 0, none⟩) 2 2)] (by rw [hρ']; simp [execOp, go_sem, e15, eF]) ((merge2 a b ha hb' W gr hg2).mono fun e w' he => ?_)
    obtain ⟨rfl, hbb⟩ := he
    exact ⟨_, rfl, hbb, (show _ = _ from by rw [m1]), fun j_ x_ hj_ hx_ => ⟨fun h => absurd h (by decide), fun _ h => absurd h (by decide)⟩⟩
  have h4 : Reg.OpOK Try.prog (Reg.opsOf Try.f3 2) a0 w0 (lattice2R a b u l ga gb Z w0.heap.size) (fun i_ j_ u_ x_ => i_ ∈ [8, 9] → j_ ∈ [8, 9] → i_ ≠ j_ → u_ ≠ x_) 4 := by
    refine Reg.op_okD2 (fun af => { dst := some 17, op := Op.load 24 (Operand.tmp 3), type := 24, pos := "outright.go:52", after := af, guard := none }) #[] (by kernel_rfl) [] (by kernel_rfl) fun af v W hb hd => ?_
    have e3 := (Reg.gfr_eval0 (ops := (Reg.opsOf Try.f3 2)) (a0 := a0) (v := v) (L := []) 3 (by kernel_rfl)).trans i3
    refine ⟨Reg.wanted_none rfl, ?_⟩
    generalize Reg.gfr (Reg.opsOf Try.f3 2) a0 v [] = G at e3 ⊢
    generalize hρ : G.eval = ρ at e3
    have hρ' : G.eval = ρ := hρ
    exact fun K hK => wp_load_row 24 (.tmp 3) rfl ga (by rw [hρ']; exact e3) 24 (vC a) (0, 0) _ (M_ga W hb) Try.underlying24 rfl (vec_size ha) (hK _ _ ⟨Below.refl _ _, rfl, fun j_ x_ hj_ hx_ => ⟨fun h => absurd h (by decide), fun _ h => absurd h (by decide)⟩⟩)
  have h5 : Reg.OpOK Try.prog (Reg.opsOf Try.f3 2) a0 w0 (lattice2R a b u l ga gb Z w0.heap.size) (fun i_ j_ u_ x_ => i_ ∈ [8, 9] → j_ ∈ [8, 9] → i_ ≠ j_ → u_ ≠ x_) 5 := by
    refine Reg.op_okD2 (fun af => { dst := some 18, op := Op.load 24 (Operand.tmp 4), type := 24, pos := "outright.go:52", after := af, guard := none }) #[] (by kernel_rfl) [] (by kernel_rfl) fun af v W hb hd => ?_
    have e4 := (Reg.gfr_eval0 (ops := (Reg.opsOf Try.f3 2)) (a0 := a0) (v := v) (L := []) 4 (by kernel_rfl)).trans i4
    refine ⟨Reg.wanted_none rfl, ?_⟩
    generalize Reg.gfr (Reg.opsOf Try.f3 2) a0 v [] = G at e4 ⊢
    generalize hρ : G.eval = ρ at e4
    have hρ' : G.eval = ρ := hρ
    exact fun K hK => wp_load_row 24 (.tmp 4) rfl gb (by rw [hρ']; exact e4) 24 (vC b) (0, 0) _ (M_gb W hb) Try.underlying24 rfl (vec_size hb') (hK _ _ ⟨Below.refl _ _, rfl, fun j_ x_ hj_ hx_ => ⟨fun h => absurd h (by decide), fun _ h => absurd h (by decide)⟩⟩)
  have h6 : Reg.OpOK Try.prog (Reg.opsOf Try.f3 2) a0 w0 (lattice2R a b u l ga gb Z w0.heap.size) (fun i_ j_ u_ x_ => i_ ∈ [8, 9] → j_ ∈ [8, 9] → i_ ≠ j_ → u_ ≠ x_) 6 := by
    refine Reg.op_okD2 (fun af => { dst := some 19, op := Op.buildSlice 43 2 #[(0, Operand.tmp 17), (1, Operand.tmp 18)], type := 43, pos := "outright.go:52", after := af, guard := none }) #[{ on := 4, ground := Ground.data }, { on := 5, ground := Ground.data }] (by kernel_rfl) [4, 5] (by kernel_rfl) fun af v W hb hd => ?_
    have d4 : v 4 = (Value.agg (vC a)) := hd 4 (by decide)
    have d5 : v 5 = (Value.agg (vC b)) := hd 5 (by decide)
    have e17 := (Reg.gfr_eval (ops := (Reg.opsOf Try.f3 2)) (a0 := a0) (v := v) (L := [4, 5]) 17 4 (by kernel_rfl) (by rw [hsz]; omega)).trans d4
    have e18 := (Reg.gfr_eval (ops := (Reg.opsOf Try.f3 2)) (a0 := a0) (v := v) (L := [4, 5]) 18 5 (by kernel_rfl) (by rw [hsz]; omega)).trans d5
    refine ⟨Reg.wanted_none rfl, ?_⟩
    generalize Reg.gfr (Reg.opsOf Try.f3 2) a0 v [4, 5] = G at e17 e18 ⊢
    generalize hρ : G.eval = ρ at e17 e18
    have hρ' : G.eval = ρ := hρ
    exact Reg.go_build 43 24 2 _ rfl Try.underlying43 _ (by rw [hρ']; exact built_vecs [a, b] (by simp [ha, hb']) (by simp) (by simp) _ (by simp [e17, e18])) ⟨(Below.refl _ W).alloc (Nat.le_refl _) _, ⟨_, rfl, heap_alloc_new _ _⟩, fun j_ x_ hj_ hx_ => ⟨fun h => absurd h (by decide), fun _ h => absurd h (by decide)⟩⟩
  have h7 : Reg.OpOK Try.prog (Reg.opsOf Try.f3 2) a0 w0 (lattice2R a b u l ga gb Z w0.heap.size) (fun i_ j_ u_ x_ => i_ ∈ [8, 9] → j_ ∈ [8, 9] → i_ ≠ j_ → u_ ≠ x_) 7 := by
    refine Reg.op_okD2 (fun af => { dst := some 20, op := Op.call { callee := Callee.value (Operand.func 12), args := #[Operand.tmp 19], argTypes := #[43] }, type := 24, pos := "outright.go:52", after := af, guard := none }) #[{ on := 6, ground := Ground.data }, { on := 3, ground := Ground.chain }] (by kernel_rfl) [6, 3] (by kernel_rfl) fun af v W hb hd => ?_
    have d6 : (Reg.IsRow 24 (vecs [a, b]).toArray 2) (v 6) W := hd 6 (by decide)
    have e19 := Reg.gfr_eval (ops := (Reg.opsOf Try.f3 2)) (a0 := a0) (v := v) (L := [6, 3]) 19 6 (by kernel_rfl) (by rw [hsz]; omega)
    obtain ⟨gr, hg1, hg2⟩ := d6
    rw [hg1] at e19
    refine ⟨Reg.wanted_none rfl, ?_⟩
    have eF : ∀ f, (Reg.gfr (Reg.opsOf Try.f3 2) a0 v [6, 3]).eval (.func f) = .func (.func f) #[] #[] := fun _ => rfl
    generalize Reg.gfr (Reg.opsOf Try.f3 2) a0 v [6, 3] = G at e19 eF ⊢
    generalize hρ : G.eval = ρ at e19 eF
    have hρ' : G.eval = ρ := hρ
    refine Reg.go_call 12 #[(Value.slice (some ⟨gr, 0, none⟩) 2 2)] (by rw [hρ']; simp [execOp, go_sem, e19, eF]) ((meet2 a b ha hb' W gr hg2).mono fun e w' he => ?_)
    obtain ⟨rfl, hbb⟩ := he
    exact ⟨_, rfl, hbb, (show _ = _ from by rw [m2]), fun j_ x_ hj_ hx_ => ⟨fun h => absurd h (by decide), fun _ h => absurd h (by decide)⟩⟩
  have h8 : Reg.OpOK Try.prog (Reg.opsOf Try.f3 2) a0 w0 (lattice2R a b u l ga gb Z w0.heap.size) (fun i_ j_ u_ x_ => i_ ∈ [8, 9] → j_ ∈ [8, 9] → i_ ≠ j_ → u_ ≠ x_) 8 := by
    refine Reg.op_okD2 (fun af => { dst := some 8, op := Op.alloc 24, type := 0, pos := "outright.go:52", after := af, guard := none }) #[] (by kernel_rfl) [] (by kernel_rfl) fun af v W hb hd => ?_
    have this : ∀ j_ x_, j_ ≠ 8 → (lattice2R a b u l ga gb Z w0.heap.size) j_ x_ W → j_ ∈ [8, 9] → Value.pointer (some ⟨W.heap.size, 0, none⟩) ≠ x_ := fun j_ x_ hj_ hx_ hm => by
      simp only [List.mem_cons, List.not_mem_nil, or_false] at hm
      rcases hm with rfl | rfl
      · exact absurd rfl hj_
      · exact Reg.IsCell.new_ne hx_
    refine ⟨Reg.wanted_none rfl, ?_⟩
    generalize Reg.gfr (Reg.opsOf Try.f3 2) a0 v [] = G at  ⊢
    generalize hρ : G.eval = ρ
    have hρ' : G.eval = ρ := hρ
    exact Reg.go_alloc 24 rfl Z hz0 ⟨(Below.refl _ W).alloc (Nat.le_refl _) _, ⟨_, rfl, hb.size, heap_alloc_new _ _⟩, fun j_ x_ hj_ hx_ => ⟨fun _ h2 _ => (this j_ x_ hj_ hx_ h2), fun h2 _ _ => Ne.symm ((this j_ x_ hj_ hx_ h2))⟩⟩
  have h9 : Reg.OpOK Try.prog (Reg.opsOf Try.f3 2) a0 w0 (lattice2R a b u l ga gb Z w0.heap.size) (fun i_ j_ u_ x_ => i_ ∈ [8, 9] → j_ ∈ [8, 9] → i_ ≠ j_ → u_ ≠ x_) 9 := by
    refine Reg.op_okD2 (fun af => { dst := some 9, op := Op.alloc 24, type := 0, pos := "outright.go:52", after := af, guard := none }) #[] (by kernel_rfl) [] (by kernel_rfl) fun af v W hb hd => ?_
    have this : ∀ j_ x_, j_ ≠ 9 → (lattice2R a b u l ga gb Z w0.heap.size) j_ x_ W → j_ ∈ [8, 9] → Value.pointer (some ⟨W.heap.size, 0, none⟩) ≠ x_ := fun j_ x_ hj_ hx_ hm => by
      simp only [List.mem_cons, List.not_mem_nil, or_false] at hm
      rcases hm with rfl | rfl
      · exact Reg.IsCell.new_ne hx_
      · exact absurd rfl hj_
    refine ⟨Reg.wanted_none rfl, ?_⟩
    generalize Reg.gfr (Reg.opsOf Try.f3 2) a0 v [] = G at  ⊢
    generalize hρ : G.eval = ρ
    have hρ' : G.eval = ρ := hρ
    exact Reg.go_alloc 24 rfl Z hz0 ⟨(Below.refl _ W).alloc (Nat.le_refl _) _, ⟨_, rfl, hb.size, heap_alloc_new _ _⟩, fun j_ x_ hj_ hx_ => ⟨fun _ h2 _ => (this j_ x_ hj_ hx_ h2), fun h2 _ _ => Ne.symm ((this j_ x_ hj_ hx_ h2))⟩⟩
  refine Reg.region_rel (by kernel_rfl) [0, 1, 2, 3, 4, 5, 6, 7, 8, 9] (lattice2R a b u l ga gb Z w0.heap.size) (fun i_ j_ u_ x_ => i_ ∈ [8, 9] → j_ ∈ [8, 9] → i_ ≠ j_ → u_ ≠ x_) (by rw [hsz]; kernel_rfl) (lattice2_stable a b u l ga gb Z w0.heap.size) (fun i hi => ?_) (fun v w hb hR hD fuel hf => ?_)
  · simp only [List.mem_cons, List.not_mem_nil, or_false] at hi
    rcases hi with rfl | rfl | rfl | rfl | rfl | rfl | rfl | rfl | rfl | rfl
    · exact h0
    · exact h1
    · exact h2
    · exact h3
    · exact h4
    · exact h5
    · exact h6
    · exact h7
    · exact h8
    · exact h9
  · obtain ⟨p8, r8, hB8, c8⟩ : Reg.IsCell w0.heap.size 24 Z (v 8) w := hR 8 (by decide)
    have x8 := (Reg.gfr_eval (ops := (Reg.opsOf Try.f3 2)) (a0 := a0) (v := v) (L := [0, 1, 2, 3, 4, 5, 6, 7, 8, 9]) 8 8 (by kernel_rfl) (by rw [hsz]; omega)).trans r8
    have y8 : v 3 = (Value.agg (vC u)) := hR 3 (by decide)
    have z8 := (Reg.gfr_eval (ops := (Reg.opsOf Try.f3 2)) (a0 := a0) (v := v) (L := [0, 1, 2, 3, 4, 5, 6, 7, 8, 9]) 16 3 (by kernel_rfl) (by rw [hsz]; omega)).trans y8
    obtain ⟨p9, r9, hB9, c9⟩ : Reg.IsCell w0.heap.size 24 Z (v 9) w := hR 9 (by decide)
    have x9 := (Reg.gfr_eval (ops := (Reg.opsOf Try.f3 2)) (a0 := a0) (v := v) (L := [0, 1, 2, 3, 4, 5, 6, 7, 8, 9]) 9 9 (by kernel_rfl) (by rw [hsz]; omega)).trans r9
    have y9 : v 7 = (Value.agg (vC l)) := hR 7 (by decide)
    have z9 := (Reg.gfr_eval (ops := (Reg.opsOf Try.f3 2)) (a0 := a0) (v := v) (L := [0, 1, 2, 3, 4, 5, 6, 7, 8, 9]) 20 7 (by kernel_rfl) (by rw [hsz]; omega)).trans y9
    have n8_9 : p8 ≠ p9 := fun h => hD 8 (by decide) 9 (by decide) (by decide) (by decide) (by decide) (by decide) (by rw [r8, r9, h])
    refine Reg.tail_stores [10, 11] [0, 1, 2, 3, 4, 5, 6, 7, 8, 9] (fun k => if k = 10 then p8 else p9) (fun k => if k = 10 then (vC u) else (vC l)) (fun k => if k = 10 then Z else Z) (fun k => if k = 10 then 24 else 24) w0.heap.size ?_ ?_ ?_ ?_ (by rw [hn]; decide) (by decide) ?_ fuel hf
    · intro k hk
      simp only [List.mem_cons, List.not_mem_nil, or_false] at hk
      rcases hk with rfl | rfl
      · exact ⟨Reg.dp_lt (by kernel_rfl), { dst := none, op := Op.store 24 (Operand.tmp 8) (Operand.tmp 16), type := 0, pos := "outright.go:52", after := #[{ on := 8, ground := Ground.data }, { on := 3, ground := Ground.data }, { on := 7, ground := Ground.chain }, { on := 0, ground := Ground.phase }, { on := 1, ground := Ground.phase }, { on := 2, ground := Ground.phase }, { on := 3, ground := Ground.phase }, { on := 4, ground := Ground.textOnly Departure.lateStores }, { on := 5, ground := Ground.textOnly Departure.lateStores }, { on := 6, ground := Ground.textOnly Departure.lateStores }, { on := 7, ground := Ground.textOnly Departure.lateStoresUnsure }, { on := 8, ground := Ground.phase }, { on := 9, ground := Ground.phase }], guard := none }, 24, .tmp 8, .tmp 16, by kernel_rfl, rfl, rfl, rfl, x8, z8, (vec_size hu), by simp [vC_size, hu, hZs], vC_one _⟩
      · exact ⟨Reg.dp_lt (by kernel_rfl), { dst := none, op := Op.store 24 (Operand.tmp 9) (Operand.tmp 20), type := 0, pos := "outright.go:52", after := #[{ on := 9, ground := Ground.data }, { on := 7, ground := Ground.data }, { on := 10, ground := Ground.chain }, { on := 0, ground := Ground.phase }, { on := 1, ground := Ground.phase }, { on := 2, ground := Ground.phase }, { on := 3, ground := Ground.phase }, { on := 4, ground := Ground.phase }, { on := 5, ground := Ground.phase }, { on := 6, ground := Ground.phase }, { on := 7, ground := Ground.phase }, { on := 8, ground := Ground.phase }, { on := 9, ground := Ground.phase }, { on := 10, ground := Ground.phase }], guard := none }, 24, .tmp 9, .tmp 20, by kernel_rfl, rfl, rfl, rfl, x9, z9, (vec_size hl), by simp [vC_size, hl, hZs], vC_one _⟩
    · intro k hk l hl hne
      simp only [List.mem_cons, List.not_mem_nil, or_false] at hk hl
      rcases hk with rfl | rfl <;> rcases hl with rfl | rfl <;> first | exact absurd rfl hne | exact n8_9 | exact Ne.symm n8_9
    · intro k hk
      simp only [List.mem_cons, List.not_mem_nil, or_false] at hk
      rcases hk with rfl | rfl
      · exact c8
      · exact c9
    · intro k hk
      simp only [List.mem_cons, List.not_mem_nil, or_false] at hk
      rcases hk with rfl | rfl
      · exact hB8
      · exact hB9
    · intro w2 hb2 hs
      have v0 : v 0 = (Value.agg (vC a)) := hR 0 (by decide)
      have v1 : v 1 = (Value.agg (vC b)) := hR 1 (by decide)
      have v3 : v 3 = (Value.agg (vC u)) := hR 3 (by decide)
      have v4 : v 4 = (Value.agg (vC a)) := hR 4 (by decide)
      have v5 : v 5 = (Value.agg (vC b)) := hR 5 (by decide)
      have v7 : v 7 = (Value.agg (vC l)) := hR 7 (by decide)
      rw [hfin v, v0, v1, v3, v4, v5, v7, r8, r9]
      exact hend w2 p8 p9 (v 2) (v 6) (hb.trans hb2) hB8 (hs 10 (by decide)) hB9 (hs 11 (by decide)) n8_9
def lattice7R (a b c x y : List Nat) (ga gb gc : Nat) (Z : Array Value) (B : Nat) : Nat → Value → World → Prop
  | 0 => fun x_ _ => x_ = (Value.agg (vC a))
  | 1 => fun x_ _ => x_ = (Value.agg (vC b))
  | 2 => fun x_ _ => x_ = (Value.agg (vC c))
  | 3 => Reg.IsRow 24 (vecs [a, b, c]).toArray 3
  | 4 => fun x_ _ => x_ = (Value.agg (vC x))
  | 5 => fun x_ _ => x_ = (Value.agg (vC a))
  | 6 => fun x_ _ => x_ = (Value.agg (vC b))
  | 7 => fun x_ _ => x_ = (Value.agg (vC c))
  | 8 => Reg.IsRow 24 (vecs [a, b, c]).toArray 3
  | 9 => fun x_ _ => x_ = (Value.agg (vC y))
  | 10 => Reg.IsCell B 24 Z
  | 11 => Reg.IsCell B 24 Z
  | _ => fun _ _ => True
theorem lattice7_stable (a b c x y : List Nat) (ga gb gc : Nat) (Z : Array Value) (B : Nat) : ∀ i_ u_ w_ w_', (lattice7R a b c x y ga gb gc Z B) i_ u_ w_ → Below w_.heap.size w_ w_' → (lattice7R a b c x y ga gb gc Z B) i_ u_ w_' := fun i_ u_ w_ w_' h_ hb_ => by
  match i_, h_ with
  | 0, h_ => exact h_
  | 1, h_ => exact h_
  | 2, h_ => exact h_
  | 3, h_ => exact (Reg.IsRow.below h_ hb_)
  | 4, h_ => exact h_
  | 5, h_ => exact h_
  | 6, h_ => exact h_
  | 7, h_ => exact h_
  | 8, h_ => exact (Reg.IsRow.below h_ hb_)
  | 9, h_ => exact h_
  | 10, h_ => exact (Reg.IsCell.below h_ hb_)
  | 11, h_ => exact (Reg.IsCell.below h_ hb_)
  | 12, h_ => exact h_
  | 13, h_ => exact h_
  | (_ + 14), _ => trivial
set_option maxHeartbeats 4000000 in
set_option maxRecDepth 20000 in
theorem lattice7 (a b c x y : List Nat) (ga gb gc : Nat) (Z : Array Value) (w0 : World) {s0 s1 s2 s6 s7 s8 s9 s10 s11 s12 s13 s14 s15 s16 s17 s18 s19 s20 s21 s22 s23 s24 s25 s26 s27 s28 s29 s30 s31 s32 s33 s34 s35 s36 s37 s38 s39 s40 s41 s42 s43 s44 s45 s46 s47 s48 s49 s50 s51 s52 s53 s54 s55 s56 s57 s58 s59 s60 s61 s62 s63 s64 s65 s66 s67 s68 s69 s70 s71 s72 s73 s74 s75 s76 s77 s78 s79 s80 s81 s82 s83 s84 s85 s86 s87 s88 s89 s90 s91 s92 s93 s94 s95 s96 s97 s98 s99 s100 s101 s102 s103 s104 s105 s106 s107 s108 s109 s110 s111 s112 s113 s114 s115 s116 s117 s118 s119 s120 s121 s122 s123 s124 s125 s126 s127 s128 s129 s130 s131 s132 s133 s134 s135 s136 s137 s138 s139 s140 : Value}
    (ha : a.length = 16) (hb' : b.length = 16) (hc : c.length = 16) (hx' : x.length = 16) (hy : y.length = 16) (m1 : maxV (maxV a b) c = x) (m2 : minV (minV a b) c = y) (hz0 : (Try.prog.info? 24).bind (fun i => i.zero.map Value.cells) = some Z) (hZs : Z.size = 16)
    (M_ga : ∀ W, Below w0.heap.size w0 W → W.heap[ga]? = some (.cells (vC a) 24 (0, 0)))
    (M_gb : ∀ W, Below w0.heap.size w0 W → W.heap[gb]? = some (.cells (vC b) 24 (0, 0)))
    (M_gc : ∀ W, Below w0.heap.size w0 W → W.heap[gc]? = some (.cells (vC c) 24 (0, 0)))
    {Q : Exit → Act → World → Prop}
    (hend : ∀ (w : World) (p10 : Nat) (p11 : Nat) (r72 r77 : Value), Below w0.heap.size w0 w → w0.heap.size ≤ p10 → w.heap[p10]? = some (.cells (vC x) 24 (0, 0)) → w0.heap.size ≤ p11 → w.heap[p11]? = some (.cells (vC y) 24 (0, 0)) → p10 ≠ p11 → Q .normal { tmps := #[s0, s1, s2, (Value.pointer (some ⟨ga, 0, none⟩)), (Value.pointer (some ⟨gb, 0, none⟩)), (Value.pointer (some ⟨gc, 0, none⟩)), s6, s7, s8, s9, (Value.pointer (some ⟨p10, 0, none⟩)), (Value.pointer (some ⟨p11, 0, none⟩)), s12, s13, s14, s15, s16, s17, s18, s19, s20, s21, s22, s23, s24, s25, s26, s27, s28, s29, s30, s31, s32, s33, s34, s35, s36, s37, s38, s39, s40, s41, s42, s43, s44, s45, s46, s47, s48, s49, s50, s51, s52, s53, s54, s55, s56, s57, s58, s59, s60, s61, s62, s63, s64, s65, s66, s67, s68, (Value.agg (vC a)), (Value.agg (vC b)), (Value.agg (vC c)), r72, (Value.agg (vC x)), (Value.agg (vC a)), (Value.agg (vC b)), (Value.agg (vC c)), r77, (Value.agg (vC y)), s79, s80, s81, s82, s83, s84, s85, s86, s87, s88, s89, s90, s91, s92, s93, s94, s95, s96, s97, s98, s99, s100, s101, s102, s103, s104, s105, s106, s107, s108, s109, s110, s111, s112, s113, s114, s115, s116, s117, s118, s119, s120, s121, s122, s123, s124, s125, s126, s127, s128, s129, s130, s131, s132, s133, s134, s135, s136, s137, s138, s139, s140], defers := [] } w) :
    (Code.region 7 (Reg.opsOf Try.f3 7) true).wp Try.prog Q { tmps := #[s0, s1, s2, (Value.pointer (some ⟨ga, 0, none⟩)), (Value.pointer (some ⟨gb, 0, none⟩)), (Value.pointer (some ⟨gc, 0, none⟩)), s6, s7, s8, s9, s10, s11, s12, s13, s14, s15, s16, s17, s18, s19, s20, s21, s22, s23, s24, s25, s26, s27, s28, s29, s30, s31, s32, s33, s34, s35, s36, s37, s38, s39, s40, s41, s42, s43, s44, s45, s46, s47, s48, s49, s50, s51, s52, s53, s54, s55, s56, s57, s58, s59, s60, s61, s62, s63, s64, s65, s66, s67, s68, s69, s70, s71, s72, s73, s74, s75, s76, s77, s78, s79, s80, s81, s82, s83, s84, s85, s86, s87, s88, s89, s90, s91, s92, s93, s94, s95, s96, s97, s98, s99, s100, s101, s102, s103, s104, s105, s106, s107, s108, s109, s110, s111, s112, s113, s114, s115, s116, s117, s118, s119, s120, s121, s122, s123, s124, s125, s126, s127, s128, s129, s130, s131, s132, s133, s134, s135, s136, s137, s138, s139, s140], defers := [] } w0 := by
  obtain ⟨a0, ha0⟩ : ∃ a0 : Act, a0 = { tmps := #[s0, s1, s2, (Value.pointer (some ⟨ga, 0, none⟩)), (Value.pointer (some ⟨gb, 0, none⟩)), (Value.pointer (some ⟨gc, 0, none⟩)), s6, s7, s8, s9, s10, s11, s12, s13, s14, s15, s16, s17, s18, s19, s20, s21, s22, s23, s24, s25, s26, s27, s28, s29, s30, s31, s32, s33, s34, s35, s36, s37, s38, s39, s40, s41, s42, s43, s44, s45, s46, s47, s48, s49, s50, s51, s52, s53, s54, s55, s56, s57, s58, s59, s60, s61, s62, s63, s64, s65, s66, s67, s68, s69, s70, s71, s72, s73, s74, s75, s76, s77, s78, s79, s80, s81, s82, s83, s84, s85, s86, s87, s88, s89, s90, s91, s92, s93, s94, s95, s96, s97, s98, s99, s100, s101, s102, s103, s104, s105, s106, s107, s108, s109, s110, s111, s112, s113, s114, s115, s116, s117, s118, s119, s120, s121, s122, s123, s124, s125, s126, s127, s128, s129, s130, s131, s132, s133, s134, s135, s136, s137, s138, s139, s140], defers := [] } := ⟨_, rfl⟩
  have hfin : ∀ v : Nat → Value, Reg.gfr (Reg.opsOf Try.f3 7) a0 v [0, 1, 2, 3, 4, 5, 6, 7, 8, 9, 10, 11] = { tmps := #[s0, s1, s2, (Value.pointer (some ⟨ga, 0, none⟩)), (Value.pointer (some ⟨gb, 0, none⟩)), (Value.pointer (some ⟨gc, 0, none⟩)), s6, s7, s8, s9, v 10, v 11, s12, s13, s14, s15, s16, s17, s18, s19, s20, s21, s22, s23, s24, s25, s26, s27, s28, s29, s30, s31, s32, s33, s34, s35, s36, s37, s38, s39, s40, s41, s42, s43, s44, s45, s46, s47, s48, s49, s50, s51, s52, s53, s54, s55, s56, s57, s58, s59, s60, s61, s62, s63, s64, s65, s66, s67, s68, v 0, v 1, v 2, v 3, v 4, v 5, v 6, v 7, v 8, v 9, s79, s80, s81, s82, s83, s84, s85, s86, s87, s88, s89, s90, s91, s92, s93, s94, s95, s96, s97, s98, s99, s100, s101, s102, s103, s104, s105, s106, s107, s108, s109, s110, s111, s112, s113, s114, s115, s116, s117, s118, s119, s120, s121, s122, s123, s124, s125, s126, s127, s128, s129, s130, s131, s132, s133, s134, s135, s136, s137, s138, s139, s140], defers := [] } := fun v => by rw [ha0]; kernel_rfl
  rw [← ha0]
  have i3 : a0.eval (.tmp 3) = (Value.pointer (some ⟨ga, 0, none⟩)) := by rw [ha0]; rfl
  have i4 : a0.eval (.tmp 4) = (Value.pointer (some ⟨gb, 0, none⟩)) := by rw [ha0]; rfl
  have i5 : a0.eval (.tmp 5) = (Value.pointer (some ⟨gc, 0, none⟩)) := by rw [ha0]; rfl
  have hsz : a0.tmps.size = 141 := by rw [ha0]; rfl
  clear ha0
  have hn : (Reg.opsOf Try.f3 7).size = 14 := by kernel_rfl
  have h0 : Reg.OpOK Try.prog (Reg.opsOf Try.f3 7) a0 w0 (lattice7R a b c x y ga gb gc Z w0.heap.size) (fun i_ j_ u_ x_ => i_ ∈ [10, 11] → j_ ∈ [10, 11] → i_ ≠ j_ → u_ ≠ x_) 0 := by
    refine Reg.op_okD2 (fun af => { dst := some 69, op := Op.load 24 (Operand.tmp 3), type := 24, pos := "outright.go:59", after := af, guard := none }) #[] (by kernel_rfl) [] (by kernel_rfl) fun af v W hb hd => ?_
    have e3 := (Reg.gfr_eval0 (ops := (Reg.opsOf Try.f3 7)) (a0 := a0) (v := v) (L := []) 3 (by kernel_rfl)).trans i3
    refine ⟨Reg.wanted_none rfl, ?_⟩
    generalize Reg.gfr (Reg.opsOf Try.f3 7) a0 v [] = G at e3 ⊢
    generalize hρ : G.eval = ρ at e3
    have hρ' : G.eval = ρ := hρ
    exact fun K hK => wp_load_row 24 (.tmp 3) rfl ga (by rw [hρ']; exact e3) 24 (vC a) (0, 0) _ (M_ga W hb) Try.underlying24 rfl (vec_size ha) (hK _ _ ⟨Below.refl _ _, rfl, fun j_ x_ hj_ hx_ => ⟨fun h => absurd h (by decide), fun _ h => absurd h (by decide)⟩⟩)
  have h1 : Reg.OpOK Try.prog (Reg.opsOf Try.f3 7) a0 w0 (lattice7R a b c x y ga gb gc Z w0.heap.size) (fun i_ j_ u_ x_ => i_ ∈ [10, 11] → j_ ∈ [10, 11] → i_ ≠ j_ → u_ ≠ x_) 1 := by
    refine Reg.op_okD2 (fun af => { dst := some 70, op := Op.load 24 (Operand.tmp 4), type := 24, pos := "outright.go:59", after := af, guard := none }) #[] (by kernel_rfl) [] (by kernel_rfl) fun af v W hb hd => ?_
    have e4 := (Reg.gfr_eval0 (ops := (Reg.opsOf Try.f3 7)) (a0 := a0) (v := v) (L := []) 4 (by kernel_rfl)).trans i4
    refine ⟨Reg.wanted_none rfl, ?_⟩
    generalize Reg.gfr (Reg.opsOf Try.f3 7) a0 v [] = G at e4 ⊢
    generalize hρ : G.eval = ρ at e4
    have hρ' : G.eval = ρ := hρ
    exact fun K hK => wp_load_row 24 (.tmp 4) rfl gb (by rw [hρ']; exact e4) 24 (vC b) (0, 0) _ (M_gb W hb) Try.underlying24 rfl (vec_size hb') (hK _ _ ⟨Below.refl _ _, rfl, fun j_ x_ hj_ hx_ => ⟨fun h => absurd h (by decide), fun _ h => absurd h (by decide)⟩⟩)
  have h2 : Reg.OpOK Try.prog (Reg.opsOf Try.f3 7) a0 w0 (lattice7R a b c x y ga gb gc Z w0.heap.size) (fun i_ j_ u_ x_ => i_ ∈ [10, 11] → j_ ∈ [10, 11] → i_ ≠ j_ → u_ ≠ x_) 2 := by
    refine Reg.op_okD2 (fun af => { dst := some 71, op := Op.load 24 (Operand.tmp 5), type := 24, pos := "outright.go:59", after := af, guard := none }) #[] (by kernel_rfl) [] (by kernel_rfl) fun af v W hb hd => ?_
    have e5 := (Reg.gfr_eval0 (ops := (Reg.opsOf Try.f3 7)) (a0 := a0) (v := v) (L := []) 5 (by kernel_rfl)).trans i5
    refine ⟨Reg.wanted_none rfl, ?_⟩
    generalize Reg.gfr (Reg.opsOf Try.f3 7) a0 v [] = G at e5 ⊢
    generalize hρ : G.eval = ρ at e5
    have hρ' : G.eval = ρ := hρ
    exact fun K hK => wp_load_row 24 (.tmp 5) rfl gc (by rw [hρ']; exact e5) 24 (vC c) (0, 0) _ (M_gc W hb) Try.underlying24 rfl (vec_size hc) (hK _ _ ⟨Below.refl _ _, rfl, fun j_ x_ hj_ hx_ => ⟨fun h => absurd h (by decide), fun _ h => absurd h (by decide)⟩⟩)
  have h3 : Reg.OpOK Try.prog (Reg.opsOf Try.f3 7) a0 w0 (lattice7R a b c x y ga gb gc Z w0.heap.size) (fun i_ j_ u_ x_ => i_ ∈ [10, 11] → j_ ∈ [10, 11] → i_ ≠ j_ → u_ ≠ x_) 3 := by
    refine Reg.op_okD2 (fun af => { dst := some 72, op := Op.buildSlice 43 3 #[(0, Operand.tmp 69), (1, Operand.tmp 70), (2, Operand.tmp 71)], type := 43, pos := "outright.go:59", after := af, guard := none }) #[{ on := 0, ground := Ground.data }, { on := 1, ground := Ground.data }, { on := 2, ground := Ground.data }] (by kernel_rfl) [0, 1, 2] (by kernel_rfl) fun af v W hb hd => ?_
    have d0 : v 0 = (Value.agg (vC a)) := hd 0 (by decide)
    have d1 : v 1 = (Value.agg (vC b)) := hd 1 (by decide)
    have d2 : v 2 = (Value.agg (vC c)) := hd 2 (by decide)
    have e69 := (Reg.gfr_eval (ops := (Reg.opsOf Try.f3 7)) (a0 := a0) (v := v) (L := [0, 1, 2]) 69 0 (by kernel_rfl) (by rw [hsz]; omega)).trans d0
    have e70 := (Reg.gfr_eval (ops := (Reg.opsOf Try.f3 7)) (a0 := a0) (v := v) (L := [0, 1, 2]) 70 1 (by kernel_rfl) (by rw [hsz]; omega)).trans d1
    have e71 := (Reg.gfr_eval (ops := (Reg.opsOf Try.f3 7)) (a0 := a0) (v := v) (L := [0, 1, 2]) 71 2 (by kernel_rfl) (by rw [hsz]; omega)).trans d2
    refine ⟨Reg.wanted_none rfl, ?_⟩
    generalize Reg.gfr (Reg.opsOf Try.f3 7) a0 v [0, 1, 2] = G at e69 e70 e71 ⊢
    generalize hρ : G.eval = ρ at e69 e70 e71
    have hρ' : G.eval = ρ := hρ
    exact Reg.go_build 43 24 3 _ rfl Try.underlying43 _ (by rw [hρ']; exact built_vecs [a, b, c] (by simp [ha, hb', hc]) (by simp) (by simp) _ (by simp [e69, e70, e71])) ⟨(Below.refl _ W).alloc (Nat.le_refl _) _, ⟨_, rfl, heap_alloc_new _ _⟩, fun j_ x_ hj_ hx_ => ⟨fun h => absurd h (by decide), fun _ h => absurd h (by decide)⟩⟩
  have h4 : Reg.OpOK Try.prog (Reg.opsOf Try.f3 7) a0 w0 (lattice7R a b c x y ga gb gc Z w0.heap.size) (fun i_ j_ u_ x_ => i_ ∈ [10, 11] → j_ ∈ [10, 11] → i_ ≠ j_ → u_ ≠ x_) 4 := by
    refine Reg.op_okD2 (fun af => { dst := some 73, op := Op.call { callee := Callee.value (Operand.func 11), args := #[Operand.tmp 72], argTypes := #[43] }, type := 24, pos := "outright.go:59", after := af, guard := none }) #[{ on := 3, ground := Ground.data }] (by kernel_rfl) [3] (by kernel_rfl) fun af v W hb hd => ?_
    have d3 : (Reg.IsRow 24 (vecs [a, b, c]).toArray 3) (v 3) W := hd 3 (by decide)
    have e72 := Reg.gfr_eval (ops := (Reg.opsOf Try.f3 7)) (a0 := a0) (v := v) (L := [3]) 72 3 (by kernel_rfl) (by rw [hsz]; omega)
    obtain ⟨gr, hg1, hg2⟩ := d3
    rw [hg1] at e72
    refine ⟨Reg.wanted_none rfl, ?_⟩
    have eF : ∀ f, (Reg.gfr (Reg.opsOf Try.f3 7) a0 v [3]).eval (.func f) = .func (.func f) #[] #[] := fun _ => rfl
    generalize Reg.gfr (Reg.opsOf Try.f3 7) a0 v [3] = G at e72 eF ⊢
    generalize hρ : G.eval = ρ at e72 eF
    have hρ' : G.eval = ρ := hρ
    refine Reg.go_call 11 #[(Value.slice (some ⟨gr, 0, none⟩) 3 3)] (by rw [hρ']; simp [execOp, go_sem, e72, eF]) ((merge3 a b c ha hb' hc W gr hg2).mono fun e w' he => ?_)
    obtain ⟨rfl, hbb⟩ := he
    exact ⟨_, rfl, hbb, (show _ = _ from by rw [m1]), fun j_ x_ hj_ hx_ => ⟨fun h => absurd h (by decide), fun _ h => absurd h (by decide)⟩⟩
  have h5 : Reg.OpOK Try.prog (Reg.opsOf Try.f3 7) a0 w0 (lattice7R a b c x y ga gb gc Z w0.heap.size) (fun i_ j_ u_ x_ => i_ ∈ [10, 11] → j_ ∈ [10, 11] → i_ ≠ j_ → u_ ≠ x_) 5 := by
    refine Reg.op_okD2 (fun af => { dst := some 74, op := Op.load 24 (Operand.tmp 3), type := 24, pos := "outright.go:59", after := af, guard := none }) #[] (by kernel_rfl) [] (by kernel_rfl) fun af v W hb hd => ?_
    have e3 := (Reg.gfr_eval0 (ops := (Reg.opsOf Try.f3 7)) (a0 := a0) (v := v) (L := []) 3 (by kernel_rfl)).trans i3
    refine ⟨Reg.wanted_none rfl, ?_⟩
    generalize Reg.gfr (Reg.opsOf Try.f3 7) a0 v [] = G at e3 ⊢
    generalize hρ : G.eval = ρ at e3
    have hρ' : G.eval = ρ := hρ
    exact fun K hK => wp_load_row 24 (.tmp 3) rfl ga (by rw [hρ']; exact e3) 24 (vC a) (0, 0) _ (M_ga W hb) Try.underlying24 rfl (vec_size ha) (hK _ _ ⟨Below.refl _ _, rfl, fun j_ x_ hj_ hx_ => ⟨fun h => absurd h (by decide), fun _ h => absurd h (by decide)⟩⟩)
  have h6 : Reg.OpOK Try.prog (Reg.opsOf Try.f3 7) a0 w0 (lattice7R a b c x y ga gb gc Z w0.heap.size) (fun i_ j_ u_ x_ => i_ ∈ [10, 11] → j_ ∈ [10, 11] → i_ ≠ j_ → u_ ≠ x_) 6 := by
    refine Reg.op_okD2 (fun af => { dst := some 75, op := Op.load 24 (Operand.tmp 4), type := 24, pos := "outright.go:59", after := af, guard := none }) #[] (by kernel_rfl) [] (by kernel_rfl) fun af v W hb hd => ?_
    have e4 := (Reg.gfr_eval0 (ops := (Reg.opsOf Try.f3 7)) (a0 := a0) (v := v) (L := []) 4 (by kernel_rfl)).trans i4
    refine ⟨Reg.wanted_none rfl, ?_⟩
    generalize Reg.gfr (Reg.opsOf Try.f3 7) a0 v [] = G at e4 ⊢
    generalize hρ : G.eval = ρ at e4
    have hρ' : G.eval = ρ := hρ
    exact fun K hK => wp_load_row 24 (.tmp 4) rfl gb (by rw [hρ']; exact e4) 24 (vC b) (0, 0) _ (M_gb W hb) Try.underlying24 rfl (vec_size hb') (hK _ _ ⟨Below.refl _ _, rfl, fun j_ x_ hj_ hx_ => ⟨fun h => absurd h (by decide), fun _ h => absurd h (by decide)⟩⟩)
  have h7 : Reg.OpOK Try.prog (Reg.opsOf Try.f3 7) a0 w0 (lattice7R a b c x y ga gb gc Z w0.heap.size) (fun i_ j_ u_ x_ => i_ ∈ [10, 11] → j_ ∈ [10, 11] → i_ ≠ j_ → u_ ≠ x_) 7 := by
    refine Reg.op_okD2 (fun af => { dst := some 76, op := Op.load 24 (Operand.tmp 5), type := 24, pos := "outright.go:59", after := af, guard := none }) #[] (by kernel_rfl) [] (by kernel_rfl) fun af v W hb hd => ?_
    have e5 := (Reg.gfr_eval0 (ops := (Reg.opsOf Try.f3 7)) (a0 := a0) (v := v) (L := []) 5 (by kernel_rfl)).trans i5
    refine ⟨Reg.wanted_none rfl, ?_⟩
    generalize Reg.gfr (Reg.opsOf Try.f3 7) a0 v [] = G at e5 ⊢
    generalize hρ : G.eval = ρ at e5
    have hρ' : G.eval = ρ := hρ
    exact fun K hK => wp_load_row 24 (.tmp 5) rfl gc (by rw [hρ']; exact e5) 24 (vC c) (0, 0) _ (M_gc W hb) Try.underlying24 rfl (vec_size hc) (hK _ _ ⟨Below.refl _ _, rfl, fun j_ x_ hj_ hx_ => ⟨fun h => absurd h (by decide), fun _ h => absurd h (by decide)⟩⟩)
  have h8 : Reg.OpOK Try.prog (Reg.opsOf Try.f3 7) a0 w0 (lattice7R a b c x y ga gb gc Z w0.heap.size) (fun i_ j_ u_ x_ => i_ ∈ [10, 11] → j_ ∈ [10, 11] → i_ ≠ j_ → u_ ≠ x_) 8 := by
    refine Reg.op_okD2 (fun af => { dst := some 77, op := Op.buildSlice 43 3 #[(0, Operand.tmp 74), (1, Operand.tmp 75), (2, Operand.tmp 76)], type := 43, pos := "outright.go:59", after := af, guard := none }) #[{ on := 5, ground := Ground.data }, { on := 6, ground := Ground.data }, { on := 7, ground := Ground.data }] (by kernel_rfl) [5, 6, 7] (by kernel_rfl) fun af v W hb hd => ?_
    have d5 : v 5 = (Value.agg (vC a)) := hd 5 (by decide)
    have d6 : v 6 = (Value.agg (vC b)) := hd 6 (by decide)
    have d7 : v 7 = (Value.agg (vC c)) := hd 7 (by decide)
    have e74 := (Reg.gfr_eval (ops := (Reg.opsOf Try.f3 7)) (a0 := a0) (v := v) (L := [5, 6, 7]) 74 5 (by kernel_rfl) (by rw [hsz]; omega)).trans d5
    have e75 := (Reg.gfr_eval (ops := (Reg.opsOf Try.f3 7)) (a0 := a0) (v := v) (L := [5, 6, 7]) 75 6 (by kernel_rfl) (by rw [hsz]; omega)).trans d6
    have e76 := (Reg.gfr_eval (ops := (Reg.opsOf Try.f3 7)) (a0 := a0) (v := v) (L := [5, 6, 7]) 76 7 (by kernel_rfl) (by rw [hsz]; omega)).trans d7
    refine ⟨Reg.wanted_none rfl, ?_⟩
    generalize Reg.gfr (Reg.opsOf Try.f3 7) a0 v [5, 6, 7] = G at e74 e75 e76 ⊢
    generalize hρ : G.eval = ρ at e74 e75 e76
    have hρ' : G.eval = ρ := hρ
    exact Reg.go_build 43 24 3 _ rfl Try.underlying43 _ (by rw [hρ']; exact built_vecs [a, b, c] (by simp [ha, hb', hc]) (by simp) (by simp) _ (by simp [e74, e75, e76])) ⟨(Below.refl _ W).alloc (Nat.le_refl _) _, ⟨_, rfl, heap_alloc_new _ _⟩, fun j_ x_ hj_ hx_ => ⟨fun h => absurd h (by decide), fun _ h => absurd h (by decide)⟩⟩
  have h9 : Reg.OpOK Try.prog (Reg.opsOf Try.f3 7) a0 w0 (lattice7R a b c x y ga gb gc Z w0.heap.size) (fun i_ j_ u_ x_ => i_ ∈ [10, 11] → j_ ∈ [10, 11] → i_ ≠ j_ → u_ ≠ x_) 9 := by
    refine Reg.op_okD2 (fun af => { dst := some 78, op := Op.call { callee := Callee.value (Operand.func 12), args := #[Operand.tmp 77], argTypes := #[43] }, type := 24, pos := "outright.go:59", after := af, guard := none }) #[{ on := 8, ground := Ground.data }, { on := 4, ground := Ground.chain }] (by kernel_rfl) [8, 4] (by kernel_rfl) fun af v W hb hd => ?_
    have d8 : (Reg.IsRow 24 (vecs [a, b, c]).toArray 3) (v 8) W := hd 8 (by decide)
    have e77 := Reg.gfr_eval (ops := (Reg.opsOf Try.f3 7)) (a0 := a0) (v := v) (L := [8, 4]) 77 8 (by kernel_rfl) (by rw [hsz]; omega)
    obtain ⟨gr, hg1, hg2⟩ := d8
    rw [hg1] at e77
    refine ⟨Reg.wanted_none rfl, ?_⟩
    have eF : ∀ f, (Reg.gfr (Reg.opsOf Try.f3 7) a0 v [8, 4]).eval (.func f) = .func (.func f) #[] #[] := fun _ => rfl
    generalize Reg.gfr (Reg.opsOf Try.f3 7) a0 v [8, 4] = G at e77 eF ⊢
    generalize hρ : G.eval = ρ at e77 eF
    have hρ' : G.eval = ρ := hρ
    refine Reg.go_call 12 #[(Value.slice (some ⟨gr, 0, none⟩) 3 3)] (by rw [hρ']; simp [execOp, go_sem, e77, eF]) ((meet3 a b c ha hb' hc W gr hg2).mono fun e w' he => ?_)
    obtain ⟨rfl, hbb⟩ := he
    exact ⟨_, rfl, hbb, (show _ = _ from by rw [m2]), fun j_ x_ hj_ hx_ => ⟨fun h => absurd h (by decide), fun _ h => absurd h (by decide)⟩⟩
  have h10 : Reg.OpOK Try.prog (Reg.opsOf Try.f3 7) a0 w0 (lattice7R a b c x y ga gb gc Z w0.heap.size) (fun i_ j_ u_ x_ => i_ ∈ [10, 11] → j_ ∈ [10, 11] → i_ ≠ j_ → u_ ≠ x_) 10 := by
    refine Reg.op_okD2 (fun af => { dst := some 10, op := Op.alloc 24, type := 0, pos := "outright.go:59", after := af, guard := none }) #[] (by kernel_rfl) [] (by kernel_rfl) fun af v W hb hd => ?_
    have this : ∀ j_ x_, j_ ≠ 10 → (lattice7R a b c x y ga gb gc Z w0.heap.size) j_ x_ W → j_ ∈ [10, 11] → Value.pointer (some ⟨W.heap.size, 0, none⟩) ≠ x_ := fun j_ x_ hj_ hx_ hm => by
      simp only [List.mem_cons, List.not_mem_nil, or_false] at hm
      rcases hm with rfl | rfl
      · exact absurd rfl hj_
      · exact Reg.IsCell.new_ne hx_
    refine ⟨Reg.wanted_none rfl, ?_⟩
    generalize Reg.gfr (Reg.opsOf Try.f3 7) a0 v [] = G at  ⊢
    generalize hρ : G.eval = ρ
    have hρ' : G.eval = ρ := hρ
    exact Reg.go_alloc 24 rfl Z hz0 ⟨(Below.refl _ W).alloc (Nat.le_refl _) _, ⟨_, rfl, hb.size, heap_alloc_new _ _⟩, fun j_ x_ hj_ hx_ => ⟨fun _ h2 _ => (this j_ x_ hj_ hx_ h2), fun h2 _ _ => Ne.symm ((this j_ x_ hj_ hx_ h2))⟩⟩
  have h11 : Reg.OpOK Try.prog (Reg.opsOf Try.f3 7) a0 w0 (lattice7R a b c x y ga gb gc Z w0.heap.size) (fun i_ j_ u_ x_ => i_ ∈ [10, 11] → j_ ∈ [10, 11] → i_ ≠ j_ → u_ ≠ x_) 11 := by
    refine Reg.op_okD2 (fun af => { dst := some 11, op := Op.alloc 24, type := 0, pos := "outright.go:59", after := af, guard := none }) #[] (by kernel_rfl) [] (by kernel_rfl) fun af v W hb hd => ?_
    have this : ∀ j_ x_, j_ ≠ 11 → (lattice7R a b c x y ga gb gc Z w0.heap.size) j_ x_ W → j_ ∈ [10, 11] → Value.pointer (some ⟨W.heap.size, 0, none⟩) ≠ x_ := fun j_ x_ hj_ hx_ hm => by
      simp only [List.mem_cons, List.not_mem_nil, or_false] at hm
      rcases hm with rfl | rfl
      · exact Reg.IsCell.new_ne hx_
      · exact absurd rfl hj_
    refine ⟨Reg.wanted_none rfl, ?_⟩
    generalize Reg.gfr (Reg.opsOf Try.f3 7) a0 v [] = G at  ⊢
    generalize hρ : G.eval = ρ
    have hρ' : G.eval = ρ := hρ
    exact Reg.go_alloc 24 rfl Z hz0 ⟨(Below.refl _ W).alloc (Nat.le_refl _) _, ⟨_, rfl, hb.size, heap_alloc_new _ _⟩, fun j_ x_ hj_ hx_ => ⟨fun _ h2 _ => (this j_ x_ hj_ hx_ h2), fun h2 _ _ => Ne.symm ((this j_ x_ hj_ hx_ h2))⟩⟩
  refine Reg.region_rel (by kernel_rfl) [0, 1, 2, 3, 4, 5, 6, 7, 8, 9, 10, 11] (lattice7R a b c x y ga gb gc Z w0.heap.size) (fun i_ j_ u_ x_ => i_ ∈ [10, 11] → j_ ∈ [10, 11] → i_ ≠ j_ → u_ ≠ x_) (by rw [hsz]; kernel_rfl) (lattice7_stable a b c x y ga gb gc Z w0.heap.size) (fun i hi => ?_) (fun v w hb hR hD fuel hf => ?_)
  · simp only [List.mem_cons, List.not_mem_nil, or_false] at hi
    rcases hi with rfl | rfl | rfl | rfl | rfl | rfl | rfl | rfl | rfl | rfl | rfl | rfl
    · exact h0
    · exact h1
    · exact h2
    · exact h3
    · exact h4
    · exact h5
    · exact h6
    · exact h7
    · exact h8
    · exact h9
    · exact h10
    · exact h11
  · obtain ⟨p10, r10, hB10, c10⟩ : Reg.IsCell w0.heap.size 24 Z (v 10) w := hR 10 (by decide)
    have x10 := (Reg.gfr_eval (ops := (Reg.opsOf Try.f3 7)) (a0 := a0) (v := v) (L := [0, 1, 2, 3, 4, 5, 6, 7, 8, 9, 10, 11]) 10 10 (by kernel_rfl) (by rw [hsz]; omega)).trans r10
    have y10 : v 4 = (Value.agg (vC x)) := hR 4 (by decide)
    have z10 := (Reg.gfr_eval (ops := (Reg.opsOf Try.f3 7)) (a0 := a0) (v := v) (L := [0, 1, 2, 3, 4, 5, 6, 7, 8, 9, 10, 11]) 73 4 (by kernel_rfl) (by rw [hsz]; omega)).trans y10
    obtain ⟨p11, r11, hB11, c11⟩ : Reg.IsCell w0.heap.size 24 Z (v 11) w := hR 11 (by decide)
    have x11 := (Reg.gfr_eval (ops := (Reg.opsOf Try.f3 7)) (a0 := a0) (v := v) (L := [0, 1, 2, 3, 4, 5, 6, 7, 8, 9, 10, 11]) 11 11 (by kernel_rfl) (by rw [hsz]; omega)).trans r11
    have y11 : v 9 = (Value.agg (vC y)) := hR 9 (by decide)
    have z11 := (Reg.gfr_eval (ops := (Reg.opsOf Try.f3 7)) (a0 := a0) (v := v) (L := [0, 1, 2, 3, 4, 5, 6, 7, 8, 9, 10, 11]) 78 9 (by kernel_rfl) (by rw [hsz]; omega)).trans y11
    have n10_11 : p10 ≠ p11 := fun h => hD 10 (by decide) 11 (by decide) (by decide) (by decide) (by decide) (by decide) (by rw [r10, r11, h])
    refine Reg.tail_stores [12, 13] [0, 1, 2, 3, 4, 5, 6, 7, 8, 9, 10, 11] (fun k => if k = 12 then p10 else p11) (fun k => if k = 12 then (vC x) else (vC y)) (fun k => if k = 12 then Z else Z) (fun k => if k = 12 then 24 else 24) w0.heap.size ?_ ?_ ?_ ?_ (by rw [hn]; decide) (by decide) ?_ fuel hf
    · intro k hk
      simp only [List.mem_cons, List.not_mem_nil, or_false] at hk
      rcases hk with rfl | rfl
      · exact ⟨Reg.dp_lt (by kernel_rfl), { dst := none, op := Op.store 24 (Operand.tmp 10) (Operand.tmp 73), type := 0, pos := "outright.go:59", after := #[{ on := 10, ground := Ground.data }, { on := 4, ground := Ground.data }, { on := 9, ground := Ground.chain }, { on := 0, ground := Ground.phase }, { on := 1, ground := Ground.phase }, { on := 2, ground := Ground.phase }, { on := 3, ground := Ground.phase }, { on := 4, ground := Ground.phase }, { on := 5, ground := Ground.textOnly Departure.lateStores }, { on := 6, ground := Ground.textOnly Departure.lateStores }, { on := 7, ground := Ground.textOnly Departure.lateStores }, { on := 8, ground := Ground.textOnly Departure.lateStores }, { on := 9, ground := Ground.textOnly Departure.lateStoresUnsure }, { on := 10, ground := Ground.phase }, { on := 11, ground := Ground.phase }], guard := none }, 24, .tmp 10, .tmp 73, by kernel_rfl, rfl, rfl, rfl, x10, z10, (vec_size hx'), by simp [vC_size, hx', hZs], vC_one _⟩
      · exact ⟨Reg.dp_lt (by kernel_rfl), { dst := none, op := Op.store 24 (Operand.tmp 11) (Operand.tmp 78), type := 0, pos := "outright.go:59", after := #[{ on := 11, ground := Ground.data }, { on := 9, ground := Ground.data }, { on := 12, ground := Ground.chain }, { on := 0, ground := Ground.phase }, { on := 1, ground := Ground.phase }, { on := 2, ground := Ground.phase }, { on := 3, ground := Ground.phase }, { on := 4, ground := Ground.phase }, { on := 5, ground := Ground.phase }, { on := 6, ground := Ground.phase }, { on := 7, ground := Ground.phase }, { on := 8, ground := Ground.phase }, { on := 9, ground := Ground.phase }, { on := 10, ground := Ground.phase }, { on := 11, ground := Ground.phase }, { on := 12, ground := Ground.phase }], guard := none }, 24, .tmp 11, .tmp 78, by kernel_rfl, rfl, rfl, rfl, x11, z11, (vec_size hy), by simp [vC_size, hy, hZs], vC_one _⟩
    · intro k hk l hl hne
      simp only [List.mem_cons, List.not_mem_nil, or_false] at hk hl
      rcases hk with rfl | rfl <;> rcases hl with rfl | rfl <;> first | exact absurd rfl hne | exact n10_11 | exact Ne.symm n10_11
    · intro k hk
      simp only [List.mem_cons, List.not_mem_nil, or_false] at hk
      rcases hk with rfl | rfl
      · exact c10
      · exact c11
    · intro k hk
      simp only [List.mem_cons, List.not_mem_nil, or_false] at hk
      rcases hk with rfl | rfl
      · exact hB10
      · exact hB11
    · intro w2 hb2 hs
      have v0 : v 0 = (Value.agg (vC a)) := hR 0 (by decide)
      have v1 : v 1 = (Value.agg (vC b)) := hR 1 (by decide)
      have v2 : v 2 = (Value.agg (vC c)) := hR 2 (by decide)
      have v4 : v 4 = (Value.agg (vC x)) := hR 4 (by decide)
      have v5 : v 5 = (Value.agg (vC a)) := hR 5 (by decide)
      have v6 : v 6 = (Value.agg (vC b)) := hR 6 (by decide)
      have v7 : v 7 = (Value.agg (vC c)) := hR 7 (by decide)
      have v9 : v 9 = (Value.agg (vC y)) := hR 9 (by decide)
      rw [hfin v, v0, v1, v2, v4, v5, v6, v7, v9, r10, r11]
      exact hend w2 p10 p11 (v 3) (v 8) (hb.trans hb2) hB10 (hs 12 (by decide)) hB11 (hs 13 (by decide)) n10_11
end Go.Proofs.Ytfifbjlmbdgmjaa
