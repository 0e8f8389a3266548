/- Regions that draw their order: their obligations (printed by regen2.py). -/
import Derived.Test.YtfifbjlmbdgmjaaVecO
import Derived.Test.YtfifbjlmbdgmjaaRegS
namespace Go.Proofs.Ytfifbjlmbdgmjaa
open Go.RowKit
def lattice8R (a b c u l x y : List Nat) (ga gb gc gu gl gx gy : Nat) : Nat → Value → World → Prop
  | 0 => fun x_ _ => x_ = (Value.bool true)
  | 1 => fun x_ _ => x_ = (Value.bool true)
  | 2 => fun x_ _ => x_ = (Value.agg (vC b))
  | 3 => fun x_ _ => x_ = (Value.agg (vC a))
  | 4 => Reg.IsRow 24 (vecs [b, a]).toArray 2
  | 5 => fun x_ _ => x_ = (Value.agg (vC u))
  | 6 => fun x_ _ => x_ = (Value.agg (vC u))
  | 7 => fun x_ _ => x_ = (Value.bool true)
  | 8 => fun x_ _ => x_ = (Value.bool true)
  | 9 => fun x_ _ => x_ = (Value.bool true)
  | 10 => fun x_ _ => x_ = (Value.agg (vC b))
  | 11 => fun x_ _ => x_ = (Value.agg (vC a))
  | 12 => Reg.IsRow 24 (vecs [b, a]).toArray 2
  | 13 => fun x_ _ => x_ = (Value.agg (vC l))
  | 14 => fun x_ _ => x_ = (Value.agg (vC l))
  | 15 => fun x_ _ => x_ = (Value.bool true)
  | 16 => fun x_ _ => x_ = (Value.bool true)
  | 17 => fun x_ _ => x_ = (Value.bool true)
  | 18 => fun x_ _ => x_ = (Value.agg (vC c))
  | 19 => fun x_ _ => x_ = (Value.agg (vC u))
  | 20 => fun x_ _ => x_ = (Value.agg (vC a))
  | 21 => Reg.IsRow 24 (vecs [c, u, a]).toArray 3
  | 22 => fun x_ _ => x_ = (Value.agg (vC x))
  | 23 => fun x_ _ => x_ = (Value.agg (vC x))
  | 24 => fun x_ _ => x_ = (Value.bool true)
  | 25 => fun x_ _ => x_ = (Value.bool true)
  | 26 => fun x_ _ => x_ = (Value.bool true)
  | 27 => fun x_ _ => x_ = (Value.agg (vC c))
  | 28 => fun x_ _ => x_ = (Value.agg (vC l))
  | 29 => fun x_ _ => x_ = (Value.agg (vC a))
  | 30 => Reg.IsRow 24 (vecs [c, l, a]).toArray 3
  | 31 => fun x_ _ => x_ = (Value.agg (vC y))
  | 32 => fun x_ _ => x_ = (Value.agg (vC y))
  | 33 => fun x_ _ => x_ = (Value.bool true)
  | 34 => fun x_ _ => x_ = (Value.bool true)
  | 35 => fun x_ _ => x_ = (Value.bool true)
  | 36 => fun x_ _ => x_ = (Value.agg (vC a))
  | 37 => fun x_ _ => x_ = (Value.agg (vC a))
  | 38 => Reg.IsRow 24 (vecs [a, a]).toArray 2
  | 39 => fun x_ _ => x_ = (Value.agg (vC a))
  | 40 => fun x_ _ => x_ = (Value.agg (vC a))
  | 41 => fun x_ _ => x_ = (Value.bool true)
  | 42 => fun x_ _ => x_ = (Value.bool true)
  | 43 => fun x_ _ => x_ = (Value.bool true)
  | 44 => fun x_ _ => x_ = (Value.agg (vC a))
  | 45 => fun x_ _ => x_ = (Value.agg (vC a))
  | 46 => Reg.IsRow 24 (vecs [a, a]).toArray 2
  | 47 => fun x_ _ => x_ = (Value.agg (vC a))
  | 48 => fun x_ _ => x_ = (Value.agg (vC a))
  | 49 => fun x_ _ => x_ = (Value.bool true)
  | 50 => fun x_ _ => x_ = (Value.bool true)
  | 51 => fun x_ _ => x_ = (Value.bool true)
  | 52 => fun x_ _ => x_ = (Value.agg (vC a))
  | 53 => fun x_ _ => x_ = (Value.agg (vC a))
  | 54 => fun x_ _ => x_ = (Value.agg (vC b))
  | 55 => Reg.IsRow 24 (vecs [a, b]).toArray 2
  | 56 => fun x_ _ => x_ = (Value.agg (vC l))
  | 57 => Reg.IsRow 24 (vecs [a, l]).toArray 2
  | 58 => fun x_ _ => x_ = (Value.agg (vC a))
  | 59 => fun x_ _ => x_ = (Value.agg (vC a))
  | 60 => fun x_ _ => x_ = (Value.bool true)
  | 61 => fun x_ _ => x_ = (Value.bool true)
  | 62 => fun x_ _ => x_ = (Value.bool true)
  | _ => fun _ _ => True
theorem lattice8_stable (a b c u l x y : List Nat) (ga gb gc gu gl gx gy : Nat) : ∀ i_ u_ w_ w_', (lattice8R a b c u l x y ga gb gc gu gl gx gy) i_ u_ w_ → Below w_.heap.size w_ w_' → (lattice8R a b c u l x y ga gb gc gu gl gx gy) i_ u_ w_' := fun i_ u_ w_ w_' h_ hb_ => by
  match i_, h_ with
  | 0, h_ => exact h_
  | 1, h_ => exact h_
  | 2, h_ => exact h_
  | 3, h_ => exact h_
  | 4, h_ => exact (Reg.IsRow.below h_ hb_)
  | 5, h_ => exact h_
  | 6, h_ => exact h_
  | 7, h_ => exact h_
  | 8, h_ => exact h_
  | 9, h_ => exact h_
  | 10, h_ => exact h_
  | 11, h_ => exact h_
  | 12, h_ => exact (Reg.IsRow.below h_ hb_)
  | 13, h_ => exact h_
  | 14, h_ => exact h_
  | 15, h_ => exact h_
  | 16, h_ => exact h_
  | 17, h_ => exact h_
  | 18, h_ => exact h_
  | 19, h_ => exact h_
  | 20, h_ => exact h_
  | 21, h_ => exact (Reg.IsRow.below h_ hb_)
  | 22, h_ => exact h_
  | 23, h_ => exact h_
  | 24, h_ => exact h_
  | 25, h_ => exact h_
  | 26, h_ => exact h_
  | 27, h_ => exact h_
  | 28, h_ => exact h_
  | 29, h_ => exact h_
  | 30, h_ => exact (Reg.IsRow.below h_ hb_)
  | 31, h_ => exact h_
  | 32, h_ => exact h_
  | 33, h_ => exact h_
  | 34, h_ => exact h_
  | 35, h_ => exact h_
  | 36, h_ => exact h_
  | 37, h_ => exact h_
  | 38, h_ => exact (Reg.IsRow.below h_ hb_)
  | 39, h_ => exact h_
  | 40, h_ => exact h_
  | 41, h_ => exact h_
  | 42, h_ => exact h_
  | 43, h_ => exact h_
  | 44, h_ => exact h_
  | 45, h_ => exact h_
  | 46, h_ => exact (Reg.IsRow.below h_ hb_)
  | 47, h_ => exact h_
  | 48, h_ => exact h_
  | 49, h_ => exact h_
  | 50, h_ => exact h_
  | 51, h_ => exact h_
  | 52, h_ => exact h_
  | 53, h_ => exact h_
  | 54, h_ => exact h_
  | 55, h_ => exact (Reg.IsRow.below h_ hb_)
  | 56, h_ => exact h_
  | 57, h_ => exact (Reg.IsRow.below h_ hb_)
  | 58, h_ => exact h_
  | 59, h_ => exact h_
  | 60, h_ => exact h_
  | 61, h_ => exact h_
  | 62, h_ => exact h_
  | (_ + 63), _ => trivial
set_option maxHeartbeats 4000000 in
set_option maxRecDepth 20000 in
theorem lattice8 (a b c u l x y : List Nat) (ga gb gc gu gl gx gy : Nat) (w0 : World) {s0 s1 s2 s12 s13 s14 s15 s16 s17 s18 s19 s20 s21 s22 s23 s24 s25 s26 s27 s28 s29 s30 s31 s32 s33 s34 s35 s36 s37 s38 s39 s40 s41 s42 s43 s44 s45 s46 s47 s48 s49 s50 s51 s52 s53 s54 s55 s56 s57 s58 s59 s60 s61 s62 s63 s64 s65 s66 s67 s68 s69 s70 s71 s72 s73 s74 s75 s76 s77 s78 s79 s80 s81 s82 s83 s84 s85 s86 s87 s88 s89 s90 s91 s92 s93 s94 s95 s96 s97 s98 s99 s100 s101 s102 s103 s104 s105 s106 s107 s108 s109 s110 s111 s112 s113 s114 s115 s116 s117 s118 s119 s120 s121 s122 s123 s124 s125 s126 s127 s128 s129 s130 s131 s132 s133 s134 s135 s136 s137 s138 s139 s140 : Value}
    (ha : a.length = 16) (hb' : b.length = 16) (hc : c.length = 16) (hu : u.length = 16) (hl : l.length = 16) (hx' : x.length = 16) (hy : y.length = 16)
    (f1 : maxV b a = u) (f2 : minV b a = l) (f3 : maxV (maxV c u) a = x) (f4 : minV (minV c l) a = y) (f5 : maxV a a = a) (f6 : minV a a = a) (f7 : minV a b = l) (f8 : maxV a l = a)
    (M_ga : ∀ W, Below w0.heap.size w0 W → W.heap[ga]? = some (.cells (vC a) 24 (0, 0)))
    (M_gb : ∀ W, Below w0.heap.size w0 W → W.heap[gb]? = some (.cells (vC b) 24 (0, 0)))
    (M_gc : ∀ W, Below w0.heap.size w0 W → W.heap[gc]? = some (.cells (vC c) 24 (0, 0)))
    (M_gu : ∀ W, Below w0.heap.size w0 W → W.heap[gu]? = some (.cells (vC u) 24 (0, 0)))
    (M_gl : ∀ W, Below w0.heap.size w0 W → W.heap[gl]? = some (.cells (vC l) 24 (0, 0)))
    (M_gx : ∀ W, Below w0.heap.size w0 W → W.heap[gx]? = some (.cells (vC x) 24 (0, 0)))
    (M_gy : ∀ W, Below w0.heap.size w0 W → W.heap[gy]? = some (.cells (vC y) 24 (0, 0)))
    {Q : Exit → Act → World → Prop}
    (hend : ∀ (w : World) (r83 r91 r100 r109 r117 r125 r134 r136 : Value), Below w0.heap.size w0 w → Q .normal { tmps := #[s0, s1, s2, (Value.pointer (some ⟨ga, 0, none⟩)), (Value.pointer (some ⟨gb, 0, none⟩)), (Value.pointer (some ⟨gc, 0, none⟩)), (Value.bool true), (Value.bool true), (Value.pointer (some ⟨gu, 0, none⟩)), (Value.pointer (some ⟨gl, 0, none⟩)), (Value.pointer (some ⟨gx, 0, none⟩)), (Value.pointer (some ⟨gy, 0, none⟩)), s12, s13, s14, s15, s16, s17, s18, s19, s20, s21, s22, s23, s24, s25, s26, s27, s28, s29, s30, s31, s32, s33, s34, s35, s36, s37, s38, s39, s40, s41, s42, s43, s44, s45, s46, s47, s48, s49, s50, s51, s52, s53, s54, s55, s56, s57, s58, s59, s60, s61, s62, s63, s64, s65, s66, s67, s68, s69, s70, s71, s72, s73, s74, s75, s76, s77, s78, (Value.bool true), (Value.bool true), (Value.agg (vC b)), (Value.agg (vC a)), r83, (Value.agg (vC u)), (Value.agg (vC u)), (Value.bool true), (Value.bool true), (Value.bool true), (Value.agg (vC b)), (Value.agg (vC a)), r91, (Value.agg (vC l)), (Value.agg (vC l)), (Value.bool true), (Value.bool true), (Value.bool true), (Value.agg (vC c)), (Value.agg (vC u)), (Value.agg (vC a)), r100, (Value.agg (vC x)), (Value.agg (vC x)), (Value.bool true), (Value.bool true), (Value.bool true), (Value.agg (vC c)), (Value.agg (vC l)), (Value.agg (vC a)), r109, (Value.agg (vC y)), (Value.agg (vC y)), (Value.bool true), (Value.bool true), (Value.bool true), (Value.agg (vC a)), (Value.agg (vC a)), r117, (Value.agg (vC a)), (Value.agg (vC a)), (Value.bool true), (Value.bool true), (Value.bool true), (Value.agg (vC a)), (Value.agg (vC a)), r125, (Value.agg (vC a)), (Value.agg (vC a)), (Value.bool true), (Value.bool true), (Value.bool true), (Value.agg (vC a)), (Value.agg (vC a)), (Value.agg (vC b)), r134, (Value.agg (vC l)), r136, (Value.agg (vC a)), (Value.agg (vC a)), (Value.bool true), (Value.bool true)], defers := [] } w) :
    (Code.region 8 (Reg.opsOf Try.f3 8) true).wp Try.prog Q { tmps := #[s0, s1, s2, (Value.pointer (some ⟨ga, 0, none⟩)), (Value.pointer (some ⟨gb, 0, none⟩)), (Value.pointer (some ⟨gc, 0, none⟩)), (Value.bool false), (Value.bool true), (Value.pointer (some ⟨gu, 0, none⟩)), (Value.pointer (some ⟨gl, 0, none⟩)), (Value.pointer (some ⟨gx, 0, none⟩)), (Value.pointer (some ⟨gy, 0, none⟩)), s12, s13, s14, s15, s16, s17, s18, s19, s20, s21, s22, s23, s24, s25, s26, s27, s28, s29, s30, s31, s32, s33, s34, s35, s36, s37, s38, s39, s40, s41, s42, s43, s44, s45, s46, s47, s48, s49, s50, s51, s52, s53, s54, s55, s56, s57, s58, s59, s60, s61, s62, s63, s64, s65, s66, s67, s68, s69, s70, s71, s72, s73, s74, s75, s76, s77, s78, s79, s80, s81, s82, s83, s84, s85, s86, s87, s88, s89, s90, s91, s92, s93, s94, s95, s96, s97, s98, s99, s100, s101, s102, s103, s104, s105, s106, s107, s108, s109, s110, s111, s112, s113, s114, s115, s116, s117, s118, s119, s120, s121, s122, s123, s124, s125, s126, s127, s128, s129, s130, s131, s132, s133, s134, s135, s136, s137, s138, s139, s140], defers := [] } w0 := by
  obtain ⟨a0, ha0⟩ : ∃ a0 : Act, a0 = { tmps := #[s0, s1, s2, (Value.pointer (some ⟨ga, 0, none⟩)), (Value.pointer (some ⟨gb, 0, none⟩)), (Value.pointer (some ⟨gc, 0, none⟩)), (Value.bool false), (Value.bool true), (Value.pointer (some ⟨gu, 0, none⟩)), (Value.pointer (some ⟨gl, 0, none⟩)), (Value.pointer (some ⟨gx, 0, none⟩)), (Value.pointer (some ⟨gy, 0, none⟩)), s12, s13, s14, s15, s16, s17, s18, s19, s20, s21, s22, s23, s24, s25, s26, s27, s28, s29, s30, s31, s32, s33, s34, s35, s36, s37, s38, s39, s40, s41, s42, s43, s44, s45, s46, s47, s48, s49, s50, s51, s52, s53, s54, s55, s56, s57, s58, s59, s60, s61, s62, s63, s64, s65, s66, s67, s68, s69, s70, s71, s72, s73, s74, s75, s76, s77, s78, s79, s80, s81, s82, s83, s84, s85, s86, s87, s88, s89, s90, s91, s92, s93, s94, s95, s96, s97, s98, s99, s100, s101, s102, s103, s104, s105, s106, s107, s108, s109, s110, s111, s112, s113, s114, s115, s116, s117, s118, s119, s120, s121, s122, s123, s124, s125, s126, s127, s128, s129, s130, s131, s132, s133, s134, s135, s136, s137, s138, s139, s140], defers := [] } := ⟨_, rfl⟩
  have hfin : ∀ v : Nat → Value, Reg.gfr (Reg.opsOf Try.f3 8) a0 v (List.range 63) = { tmps := #[s0, s1, s2, (Value.pointer (some ⟨ga, 0, none⟩)), (Value.pointer (some ⟨gb, 0, none⟩)), (Value.pointer (some ⟨gc, 0, none⟩)), v 62, (Value.bool true), (Value.pointer (some ⟨gu, 0, none⟩)), (Value.pointer (some ⟨gl, 0, none⟩)), (Value.pointer (some ⟨gx, 0, none⟩)), (Value.pointer (some ⟨gy, 0, none⟩)), s12, s13, s14, s15, s16, s17, s18, s19, s20, s21, s22, s23, s24, s25, s26, s27, s28, s29, s30, s31, s32, s33, s34, s35, s36, s37, s38, s39, s40, s41, s42, s43, s44, s45, s46, s47, s48, s49, s50, s51, s52, s53, s54, s55, s56, s57, s58, s59, s60, s61, s62, s63, s64, s65, s66, s67, s68, s69, s70, s71, s72, s73, s74, s75, s76, s77, s78, v 0, v 1, v 2, v 3, v 4, v 5, v 6, v 7, v 8, v 9, v 10, v 11, v 12, v 13, v 14, v 15, v 16, v 17, v 18, v 19, v 20, v 21, v 22, v 23, v 24, v 25, v 26, v 27, v 28, v 29, v 30, v 31, v 32, v 33, v 34, v 35, v 36, v 37, v 38, v 39, v 40, v 41, v 42, v 43, v 44, v 45, v 46, v 47, v 48, v 49, v 50, v 51, v 52, v 53, v 54, v 55, v 56, v 57, v 58, v 59, v 60, v 61], defers := [] } := fun v => by rw [ha0]; kernel_rfl
  rw [← ha0]
  have i3 : a0.eval (.tmp 3) = (Value.pointer (some ⟨ga, 0, none⟩)) := by rw [ha0]; rfl
  have i4 : a0.eval (.tmp 4) = (Value.pointer (some ⟨gb, 0, none⟩)) := by rw [ha0]; rfl
  have i5 : a0.eval (.tmp 5) = (Value.pointer (some ⟨gc, 0, none⟩)) := by rw [ha0]; rfl
  have i6 : a0.eval (.tmp 6) = (Value.bool false) := by rw [ha0]; rfl
  have i7 : a0.eval (.tmp 7) = (Value.bool true) := by rw [ha0]; rfl
  have i8 : a0.eval (.tmp 8) = (Value.pointer (some ⟨gu, 0, none⟩)) := by rw [ha0]; rfl
  have i9 : a0.eval (.tmp 9) = (Value.pointer (some ⟨gl, 0, none⟩)) := by rw [ha0]; rfl
  have i10 : a0.eval (.tmp 10) = (Value.pointer (some ⟨gx, 0, none⟩)) := by rw [ha0]; rfl
  have i11 : a0.eval (.tmp 11) = (Value.pointer (some ⟨gy, 0, none⟩)) := by rw [ha0]; rfl
  have hsz : a0.tmps.size = 141 := by rw [ha0]; rfl
  clear ha0
  have hn : (Reg.opsOf Try.f3 8).size = 63 := by kernel_rfl
  have h0 : Reg.OpOK Try.prog (Reg.opsOf Try.f3 8) a0 w0 (lattice8R a b c u l x y ga gb gc gu gl gx gy) (fun _ _ _ _ => True) 0 := by
    refine Reg.op_ok2 (fun af => { dst := some 79, op := Op.move (Operand.tmp 7), type := 4, pos := "outright.go:60", after := af, guard := none }) #[] (by kernel_rfl) [] (by kernel_rfl) fun af v W hb hd => ?_
    have e7 := (Reg.gfr_eval0 (ops := (Reg.opsOf Try.f3 8)) (a0 := a0) (v := v) (L := []) 7 (by kernel_rfl)).trans i7
    refine ⟨Reg.wanted_none rfl, ?_⟩
    generalize Reg.gfr (Reg.opsOf Try.f3 8) a0 v [] = G at e7 ⊢
    generalize hρ : G.eval = ρ at e7
    have hρ' : G.eval = ρ := hρ
    refine Reg.go_run (Value.bool true) W ?_ ?_
    · rw [hρ']; simp [execOp, go_sem, e7]
    · exact ⟨Below.refl _ _, rfl⟩
  have h1 : Reg.OpOK Try.prog (Reg.opsOf Try.f3 8) a0 w0 (lattice8R a b c u l x y ga gb gc gu gl gx gy) (fun _ _ _ _ => True) 1 := by
    refine Reg.op_ok2 (fun af => { dst := some 80, op := Op.move (Operand.tmp 79), type := 4, pos := "outright.go:60", after := af, guard := none }) #[{ on := 0, ground := Ground.data }] (by kernel_rfl) [0] (by kernel_rfl) fun af v W hb hd => ?_
    have d0 : v 0 = (Value.bool true) := hd 0 (by decide)
    have e79 := (Reg.gfr_eval (ops := (Reg.opsOf Try.f3 8)) (a0 := a0) (v := v) (L := [0]) 79 0 (by kernel_rfl) (by rw [hsz]; omega)).trans d0
    refine ⟨Reg.wanted_none rfl, ?_⟩
    generalize Reg.gfr (Reg.opsOf Try.f3 8) a0 v [0] = G at e79 ⊢
    generalize hρ : G.eval = ρ at e79
    have hρ' : G.eval = ρ := hρ
    refine Reg.go_run (Value.bool true) W ?_ ?_
    · rw [hρ']; simp [execOp, go_sem, e79]
    · exact ⟨Below.refl _ _, rfl⟩
  have h2 : Reg.OpOK Try.prog (Reg.opsOf Try.f3 8) a0 w0 (lattice8R a b c u l x y ga gb gc gu gl gx gy) (fun _ _ _ _ => True) 2 := by
    refine Reg.op_ok2 (fun af => { dst := some 81, op := Op.load 24 (Operand.tmp 4), type := 24, pos := "outright.go:60", after := af, guard := some (1, true) }) #[{ on := 1, ground := Ground.guard }] (by kernel_rfl) [1] (by kernel_rfl) fun af v W hb hd => ?_
    have d1 : v 1 = (Value.bool true) := hd 1 (by decide)
    have e4 := (Reg.gfr_eval0 (ops := (Reg.opsOf Try.f3 8)) (a0 := a0) (v := v) (L := [1]) 4 (by kernel_rfl)).trans i4
    have e80 := (Reg.gfr_eval (ops := (Reg.opsOf Try.f3 8)) (a0 := a0) (v := v) (L := [1]) 80 1 (by kernel_rfl) (by rw [hsz]; omega)).trans d1
    refine ⟨Reg.wanted_of rfl (by kernel_rfl) e80, ?_⟩
    generalize Reg.gfr (Reg.opsOf Try.f3 8) a0 v [1] = G at e4 ⊢
    generalize hρ : G.eval = ρ at e4
    have hρ' : G.eval = ρ := hρ
    exact fun K hK => wp_load_row 24 (.tmp 4) rfl gb (by rw [hρ']; exact e4) 24 (vC b) (0, 0) _ (M_gb W hb) Try.underlying24 rfl (vec_size hb') (hK _ _ ⟨Below.refl _ _, rfl⟩)
  have h3 : Reg.OpOK Try.prog (Reg.opsOf Try.f3 8) a0 w0 (lattice8R a b c u l x y ga gb gc gu gl gx gy) (fun _ _ _ _ => True) 3 := by
    refine Reg.op_ok2 (fun af => { dst := some 82, op := Op.load 24 (Operand.tmp 3), type := 24, pos := "outright.go:60", after := af, guard := some (1, true) }) #[{ on := 1, ground := Ground.guard }] (by kernel_rfl) [1] (by kernel_rfl) fun af v W hb hd => ?_
    have d1 : v 1 = (Value.bool true) := hd 1 (by decide)
    have e3 := (Reg.gfr_eval0 (ops := (Reg.opsOf Try.f3 8)) (a0 := a0) (v := v) (L := [1]) 3 (by kernel_rfl)).trans i3
    have e80 := (Reg.gfr_eval (ops := (Reg.opsOf Try.f3 8)) (a0 := a0) (v := v) (L := [1]) 80 1 (by kernel_rfl) (by rw [hsz]; omega)).trans d1
    refine ⟨Reg.wanted_of rfl (by kernel_rfl) e80, ?_⟩
    generalize Reg.gfr (Reg.opsOf Try.f3 8) a0 v [1] = G at e3 ⊢
    generalize hρ : G.eval = ρ at e3
    have hρ' : G.eval = ρ := hρ
    exact fun K hK => wp_load_row 24 (.tmp 3) rfl ga (by rw [hρ']; exact e3) 24 (vC a) (0, 0) _ (M_ga W hb) Try.underlying24 rfl (vec_size ha) (hK _ _ ⟨Below.refl _ _, rfl⟩)
  have h4 : Reg.OpOK Try.prog (Reg.opsOf Try.f3 8) a0 w0 (lattice8R a b c u l x y ga gb gc gu gl gx gy) (fun _ _ _ _ => True) 4 := by
    refine Reg.op_ok2 (fun af => { dst := some 83, op := Op.buildSlice 43 2 #[(0, Operand.tmp 81), (1, Operand.tmp 82)], type := 43, pos := "outright.go:60", after := af, guard := some (1, true) }) #[{ on := 2, ground := Ground.data }, { on := 3, ground := Ground.data }, { on := 1, ground := Ground.guard }] (by kernel_rfl) [2, 3, 1] (by kernel_rfl) fun af v W hb hd => ?_
    have d1 : v 1 = (Value.bool true) := hd 1 (by decide)
    have d2 : v 2 = (Value.agg (vC b)) := hd 2 (by decide)
    have d3 : v 3 = (Value.agg (vC a)) := hd 3 (by decide)
    have e81 := (Reg.gfr_eval (ops := (Reg.opsOf Try.f3 8)) (a0 := a0) (v := v) (L := [2, 3, 1]) 81 2 (by kernel_rfl) (by rw [hsz]; omega)).trans d2
    have e82 := (Reg.gfr_eval (ops := (Reg.opsOf Try.f3 8)) (a0 := a0) (v := v) (L := [2, 3, 1]) 82 3 (by kernel_rfl) (by rw [hsz]; omega)).trans d3
    have e80 := (Reg.gfr_eval (ops := (Reg.opsOf Try.f3 8)) (a0 := a0) (v := v) (L := [2, 3, 1]) 80 1 (by kernel_rfl) (by rw [hsz]; omega)).trans d1
    refine ⟨Reg.wanted_of rfl (by kernel_rfl) e80, ?_⟩
    generalize Reg.gfr (Reg.opsOf Try.f3 8) a0 v [2, 3, 1] = G at e81 e82 ⊢
    generalize hρ : G.eval = ρ at e81 e82
    have hρ' : G.eval = ρ := hρ
    exact Reg.go_build 43 24 2 _ rfl Try.underlying43 _ (by rw [hρ']; exact built_vecs [b, a] (by simp [hb', ha]) (by simp) (by simp) _ (by simp [e81, e82])) ⟨(Below.refl _ W).alloc (Nat.le_refl _) _, ⟨_, rfl, heap_alloc_new _ _⟩⟩
  have h5 : Reg.OpOK Try.prog (Reg.opsOf Try.f3 8) a0 w0 (lattice8R a b c u l x y ga gb gc gu gl gx gy) (fun _ _ _ _ => True) 5 := by
    refine Reg.op_ok2 (fun af => { dst := some 84, op := Op.call { callee := Callee.value (Operand.func 11), args := #[Operand.tmp 83], argTypes := #[43] }, type := 24, pos := "outright.go:60", after := af, guard := some (1, true) }) #[{ on := 4, ground := Ground.data }, { on := 1, ground := Ground.chain }, { on := 1, ground := Ground.guard }] (by kernel_rfl) [4, 1, 1] (by kernel_rfl) fun af v W hb hd => ?_
    have d1 : v 1 = (Value.bool true) := hd 1 (by decide)
    have d4 : (Reg.IsRow 24 (vecs [b, a]).toArray 2) (v 4) W := hd 4 (by decide)
    have e83 := Reg.gfr_eval (ops := (Reg.opsOf Try.f3 8)) (a0 := a0) (v := v) (L := [4, 1, 1]) 83 4 (by kernel_rfl) (by rw [hsz]; omega)
    have e80 := (Reg.gfr_eval (ops := (Reg.opsOf Try.f3 8)) (a0 := a0) (v := v) (L := [4, 1, 1]) 80 1 (by kernel_rfl) (by rw [hsz]; omega)).trans d1
    obtain ⟨gr, hg1, hg2⟩ := d4
    rw [hg1] at e83
    refine ⟨Reg.wanted_of rfl (by kernel_rfl) e80, ?_⟩
    have eF : ∀ f, (Reg.gfr (Reg.opsOf Try.f3 8) a0 v [4, 1, 1]).eval (.func f) = .func (.func f) #[] #[] := fun _ => rfl
    generalize Reg.gfr (Reg.opsOf Try.f3 8) a0 v [4, 1, 1] = G at e83 eF ⊢
    generalize hρ : G.eval = ρ at e83 eF
    have hρ' : G.eval = ρ := hρ
    refine Reg.go_call 11 #[(Value.slice (some ⟨gr, 0, none⟩) 2 2)] (by rw [hρ']; simp [execOp, go_sem, e83, eF]) ((merge2 b a hb' ha W gr hg2).mono fun e w' he => ?_)
    obtain ⟨rfl, hbb⟩ := he
    exact ⟨_, rfl, hbb, (show _ = _ from by rw [f1])⟩
  have h6 : Reg.OpOK Try.prog (Reg.opsOf Try.f3 8) a0 w0 (lattice8R a b c u l x y ga gb gc gu gl gx gy) (fun _ _ _ _ => True) 6 := by
    refine Reg.op_ok2 (fun af => { dst := some 85, op := Op.load 24 (Operand.tmp 8), type := 24, pos := "outright.go:60", after := af, guard := some (1, true) }) #[{ on := 1, ground := Ground.guard }] (by kernel_rfl) [1] (by kernel_rfl) fun af v W hb hd => ?_
    have d1 : v 1 = (Value.bool true) := hd 1 (by decide)
    have e8 := (Reg.gfr_eval0 (ops := (Reg.opsOf Try.f3 8)) (a0 := a0) (v := v) (L := [1]) 8 (by kernel_rfl)).trans i8
    have e80 := (Reg.gfr_eval (ops := (Reg.opsOf Try.f3 8)) (a0 := a0) (v := v) (L := [1]) 80 1 (by kernel_rfl) (by rw [hsz]; omega)).trans d1
    refine ⟨Reg.wanted_of rfl (by kernel_rfl) e80, ?_⟩
    generalize Reg.gfr (Reg.opsOf Try.f3 8) a0 v [1] = G at e8 ⊢
    generalize hρ : G.eval = ρ at e8
    have hρ' : G.eval = ρ := hρ
    exact fun K hK => wp_load_row 24 (.tmp 8) rfl gu (by rw [hρ']; exact e8) 24 (vC u) (0, 0) _ (M_gu W hb) Try.underlying24 rfl (vec_size hu) (hK _ _ ⟨Below.refl _ _, rfl⟩)
  have h7 : Reg.OpOK Try.prog (Reg.opsOf Try.f3 8) a0 w0 (lattice8R a b c u l x y ga gb gc gu gl gx gy) (fun _ _ _ _ => True) 7 := by
    refine Reg.op_ok2 (fun af => { dst := some 86, op := Op.binOp BinOp.eql 24 (Operand.tmp 84) (Operand.tmp 85) 24, type := 4, pos := "outright.go:60", after := af, guard := some (1, true) }) #[{ on := 5, ground := Ground.data }, { on := 6, ground := Ground.data }, { on := 1, ground := Ground.guard }] (by kernel_rfl) [5, 6, 1] (by kernel_rfl) fun af v W hb hd => ?_
    have d1 : v 1 = (Value.bool true) := hd 1 (by decide)
    have d5 : v 5 = (Value.agg (vC u)) := hd 5 (by decide)
    have d6 : v 6 = (Value.agg (vC u)) := hd 6 (by decide)
    have e84 := (Reg.gfr_eval (ops := (Reg.opsOf Try.f3 8)) (a0 := a0) (v := v) (L := [5, 6, 1]) 84 5 (by kernel_rfl) (by rw [hsz]; omega)).trans d5
    have e85 := (Reg.gfr_eval (ops := (Reg.opsOf Try.f3 8)) (a0 := a0) (v := v) (L := [5, 6, 1]) 85 6 (by kernel_rfl) (by rw [hsz]; omega)).trans d6
    have e80 := (Reg.gfr_eval (ops := (Reg.opsOf Try.f3 8)) (a0 := a0) (v := v) (L := [5, 6, 1]) 80 1 (by kernel_rfl) (by rw [hsz]; omega)).trans d1
    refine ⟨Reg.wanted_of rfl (by kernel_rfl) e80, ?_⟩
    generalize Reg.gfr (Reg.opsOf Try.f3 8) a0 v [5, 6, 1] = G at e84 e85 ⊢
    generalize hρ : G.eval = ρ at e84 e85
    have hρ' : G.eval = ρ := hρ
    refine Reg.go_run (Value.bool true) W ?_ ?_
    · rw [hρ']; simp [execOp, go_sem, e84, e85, run_eq_vec W u u hu hu]
    · exact ⟨Below.refl _ _, rfl⟩
  have h8 : Reg.OpOK Try.prog (Reg.opsOf Try.f3 8) a0 w0 (lattice8R a b c u l x y ga gb gc gu gl gx gy) (fun _ _ _ _ => True) 8 := by
    refine Reg.op_ok2 (fun af => { dst := some 87, op := Op.pick (Operand.tmp 80) (Operand.tmp 86) (Operand.const (Value.bool false)), type := 4, pos := "outright.go:60", after := af, guard := none }) #[{ on := 1, ground := Ground.data }, { on := 7, ground := Ground.data }] (by kernel_rfl) [1, 7] (by kernel_rfl) fun af v W hb hd => ?_
    have d1 : v 1 = (Value.bool true) := hd 1 (by decide)
    have d7 : v 7 = (Value.bool true) := hd 7 (by decide)
    have e80 := (Reg.gfr_eval (ops := (Reg.opsOf Try.f3 8)) (a0 := a0) (v := v) (L := [1, 7]) 80 1 (by kernel_rfl) (by rw [hsz]; omega)).trans d1
    have e86 := (Reg.gfr_eval (ops := (Reg.opsOf Try.f3 8)) (a0 := a0) (v := v) (L := [1, 7]) 86 7 (by kernel_rfl) (by rw [hsz]; omega)).trans d7
    refine ⟨Reg.wanted_none rfl, ?_⟩
    have eC : ∀ x, (Reg.gfr (Reg.opsOf Try.f3 8) a0 v [1, 7]).eval (.const x) = x := fun _ => rfl
    generalize Reg.gfr (Reg.opsOf Try.f3 8) a0 v [1, 7] = G at e80 e86 eC ⊢
    generalize hρ : G.eval = ρ at e80 e86 eC
    have hρ' : G.eval = ρ := hρ
    refine Reg.go_run (Value.bool true) W ?_ ?_
    · rw [hρ']; simp [execOp, go_sem, e80, e86, eC]
    · exact ⟨Below.refl _ _, rfl⟩
  have h9 : Reg.OpOK Try.prog (Reg.opsOf Try.f3 8) a0 w0 (lattice8R a b c u l x y ga gb gc gu gl gx gy) (fun _ _ _ _ => True) 9 := by
    refine Reg.op_ok2 (fun af => { dst := some 88, op := Op.move (Operand.tmp 87), type := 4, pos := "outright.go:60", after := af, guard := none }) #[{ on := 8, ground := Ground.data }, { on := 5, ground := Ground.chain }] (by kernel_rfl) [8, 5] (by kernel_rfl) fun af v W hb hd => ?_
    have d8 : v 8 = (Value.bool true) := hd 8 (by decide)
    have e87 := (Reg.gfr_eval (ops := (Reg.opsOf Try.f3 8)) (a0 := a0) (v := v) (L := [8, 5]) 87 8 (by kernel_rfl) (by rw [hsz]; omega)).trans d8
    refine ⟨Reg.wanted_none rfl, ?_⟩
    generalize Reg.gfr (Reg.opsOf Try.f3 8) a0 v [8, 5] = G at e87 ⊢
    generalize hρ : G.eval = ρ at e87
    have hρ' : G.eval = ρ := hρ
    refine Reg.go_run (Value.bool true) W ?_ ?_
    · rw [hρ']; simp [execOp, go_sem, e87]
    · exact ⟨Below.refl _ _, rfl⟩
  have h10 : Reg.OpOK Try.prog (Reg.opsOf Try.f3 8) a0 w0 (lattice8R a b c u l x y ga gb gc gu gl gx gy) (fun _ _ _ _ => True) 10 := by
    refine Reg.op_ok2 (fun af => { dst := some 89, op := Op.load 24 (Operand.tmp 4), type := 24, pos := "outright.go:60", after := af, guard := some (9, true) }) #[{ on := 9, ground := Ground.guard }] (by kernel_rfl) [9] (by kernel_rfl) fun af v W hb hd => ?_
    have d9 : v 9 = (Value.bool true) := hd 9 (by decide)
    have e4 := (Reg.gfr_eval0 (ops := (Reg.opsOf Try.f3 8)) (a0 := a0) (v := v) (L := [9]) 4 (by kernel_rfl)).trans i4
    have e88 := (Reg.gfr_eval (ops := (Reg.opsOf Try.f3 8)) (a0 := a0) (v := v) (L := [9]) 88 9 (by kernel_rfl) (by rw [hsz]; omega)).trans d9
    refine ⟨Reg.wanted_of rfl (by kernel_rfl) e88, ?_⟩
    generalize Reg.gfr (Reg.opsOf Try.f3 8) a0 v [9] = G at e4 ⊢
    generalize hρ : G.eval = ρ at e4
    have hρ' : G.eval = ρ := hρ
    exact fun K hK => wp_load_row 24 (.tmp 4) rfl gb (by rw [hρ']; exact e4) 24 (vC b) (0, 0) _ (M_gb W hb) Try.underlying24 rfl (vec_size hb') (hK _ _ ⟨Below.refl _ _, rfl⟩)
  have h11 : Reg.OpOK Try.prog (Reg.opsOf Try.f3 8) a0 w0 (lattice8R a b c u l x y ga gb gc gu gl gx gy) (fun _ _ _ _ => True) 11 := by
    refine Reg.op_ok2 (fun af => { dst := some 90, op := Op.load 24 (Operand.tmp 3), type := 24, pos := "outright.go:60", after := af, guard := some (9, true) }) #[{ on := 9, ground := Ground.guard }] (by kernel_rfl) [9] (by kernel_rfl) fun af v W hb hd => ?_
    have d9 : v 9 = (Value.bool true) := hd 9 (by decide)
    have e3 := (Reg.gfr_eval0 (ops := (Reg.opsOf Try.f3 8)) (a0 := a0) (v := v) (L := [9]) 3 (by kernel_rfl)).trans i3
    have e88 := (Reg.gfr_eval (ops := (Reg.opsOf Try.f3 8)) (a0 := a0) (v := v) (L := [9]) 88 9 (by kernel_rfl) (by rw [hsz]; omega)).trans d9
    refine ⟨Reg.wanted_of rfl (by kernel_rfl) e88, ?_⟩
    generalize Reg.gfr (Reg.opsOf Try.f3 8) a0 v [9] = G at e3 ⊢
    generalize hρ : G.eval = ρ at e3
    have hρ' : G.eval = ρ := hρ
    exact fun K hK => wp_load_row 24 (.tmp 3) rfl ga (by rw [hρ']; exact e3) 24 (vC a) (0, 0) _ (M_ga W hb) Try.underlying24 rfl (vec_size ha) (hK _ _ ⟨Below.refl _ _, rfl⟩)
  have h12 : Reg.OpOK Try.prog (Reg.opsOf Try.f3 8) a0 w0 (lattice8R a b c u l x y ga gb gc gu gl gx gy) (fun _ _ _ _ => True) 12 := by
    refine Reg.op_ok2 (fun af => { dst := some 91, op := Op.buildSlice 43 2 #[(0, Operand.tmp 89), (1, Operand.tmp 90)], type := 43, pos := "outright.go:60", after := af, guard := some (9, true) }) #[{ on := 10, ground := Ground.data }, { on := 11, ground := Ground.data }, { on := 9, ground := Ground.guard }] (by kernel_rfl) [10, 11, 9] (by kernel_rfl) fun af v W hb hd => ?_
    have d9 : v 9 = (Value.bool true) := hd 9 (by decide)
    have d10 : v 10 = (Value.agg (vC b)) := hd 10 (by decide)
    have d11 : v 11 = (Value.agg (vC a)) := hd 11 (by decide)
    have e89 := (Reg.gfr_eval (ops := (Reg.opsOf Try.f3 8)) (a0 := a0) (v := v) (L := [10, 11, 9]) 89 10 (by kernel_rfl) (by rw [hsz]; omega)).trans d10
    have e90 := (Reg.gfr_eval (ops := (Reg.opsOf Try.f3 8)) (a0 := a0) (v := v) (L := [10, 11, 9]) 90 11 (by kernel_rfl) (by rw [hsz]; omega)).trans d11
    have e88 := (Reg.gfr_eval (ops := (Reg.opsOf Try.f3 8)) (a0 := a0) (v := v) (L := [10, 11, 9]) 88 9 (by kernel_rfl) (by rw [hsz]; omega)).trans d9
    refine ⟨Reg.wanted_of rfl (by kernel_rfl) e88, ?_⟩
    generalize Reg.gfr (Reg.opsOf Try.f3 8) a0 v [10, 11, 9] = G at e89 e90 ⊢
    generalize hρ : G.eval = ρ at e89 e90
    have hρ' : G.eval = ρ := hρ
    exact Reg.go_build 43 24 2 _ rfl Try.underlying43 _ (by rw [hρ']; exact built_vecs [b, a] (by simp [hb', ha]) (by simp) (by simp) _ (by simp [e89, e90])) ⟨(Below.refl _ W).alloc (Nat.le_refl _) _, ⟨_, rfl, heap_alloc_new _ _⟩⟩
  have h13 : Reg.OpOK Try.prog (Reg.opsOf Try.f3 8) a0 w0 (lattice8R a b c u l x y ga gb gc gu gl gx gy) (fun _ _ _ _ => True) 13 := by
    refine Reg.op_ok2 (fun af => { dst := some 92, op := Op.call { callee := Callee.value (Operand.func 12), args := #[Operand.tmp 91], argTypes := #[43] }, type := 24, pos := "outright.go:60", after := af, guard := some (9, true) }) #[{ on := 12, ground := Ground.data }, { on := 9, ground := Ground.chain }, { on := 9, ground := Ground.guard }] (by kernel_rfl) [12, 9, 9] (by kernel_rfl) fun af v W hb hd => ?_
    have d9 : v 9 = (Value.bool true) := hd 9 (by decide)
    have d12 : (Reg.IsRow 24 (vecs [b, a]).toArray 2) (v 12) W := hd 12 (by decide)
    have e91 := Reg.gfr_eval (ops := (Reg.opsOf Try.f3 8)) (a0 := a0) (v := v) (L := [12, 9, 9]) 91 12 (by kernel_rfl) (by rw [hsz]; omega)
    have e88 := (Reg.gfr_eval (ops := (Reg.opsOf Try.f3 8)) (a0 := a0) (v := v) (L := [12, 9, 9]) 88 9 (by kernel_rfl) (by rw [hsz]; omega)).trans d9
    obtain ⟨gr, hg1, hg2⟩ := d12
    rw [hg1] at e91
    refine ⟨Reg.wanted_of rfl (by kernel_rfl) e88, ?_⟩
    have eF : ∀ f, (Reg.gfr (Reg.opsOf Try.f3 8) a0 v [12, 9, 9]).eval (.func f) = .func (.func f) #[] #[] := fun _ => rfl
    generalize Reg.gfr (Reg.opsOf Try.f3 8) a0 v [12, 9, 9] = G at e91 eF ⊢
    generalize hρ : G.eval = ρ at e91 eF
    have hρ' : G.eval = ρ := hρ
    refine Reg.go_call 12 #[(Value.slice (some ⟨gr, 0, none⟩) 2 2)] (by rw [hρ']; simp [execOp, go_sem, e91, eF]) ((meet2 b a hb' ha W gr hg2).mono fun e w' he => ?_)
    obtain ⟨rfl, hbb⟩ := he
    exact ⟨_, rfl, hbb, (show _ = _ from by rw [f2])⟩
  have h14 : Reg.OpOK Try.prog (Reg.opsOf Try.f3 8) a0 w0 (lattice8R a b c u l x y ga gb gc gu gl gx gy) (fun _ _ _ _ => True) 14 := by
    refine Reg.op_ok2 (fun af => { dst := some 93, op := Op.load 24 (Operand.tmp 9), type := 24, pos := "outright.go:60", after := af, guard := some (9, true) }) #[{ on := 9, ground := Ground.guard }] (by kernel_rfl) [9] (by kernel_rfl) fun af v W hb hd => ?_
    have d9 : v 9 = (Value.bool true) := hd 9 (by decide)
    have e9 := (Reg.gfr_eval0 (ops := (Reg.opsOf Try.f3 8)) (a0 := a0) (v := v) (L := [9]) 9 (by kernel_rfl)).trans i9
    have e88 := (Reg.gfr_eval (ops := (Reg.opsOf Try.f3 8)) (a0 := a0) (v := v) (L := [9]) 88 9 (by kernel_rfl) (by rw [hsz]; omega)).trans d9
    refine ⟨Reg.wanted_of rfl (by kernel_rfl) e88, ?_⟩
    generalize Reg.gfr (Reg.opsOf Try.f3 8) a0 v [9] = G at e9 ⊢
    generalize hρ : G.eval = ρ at e9
    have hρ' : G.eval = ρ := hρ
    exact fun K hK => wp_load_row 24 (.tmp 9) rfl gl (by rw [hρ']; exact e9) 24 (vC l) (0, 0) _ (M_gl W hb) Try.underlying24 rfl (vec_size hl) (hK _ _ ⟨Below.refl _ _, rfl⟩)
  have h15 : Reg.OpOK Try.prog (Reg.opsOf Try.f3 8) a0 w0 (lattice8R a b c u l x y ga gb gc gu gl gx gy) (fun _ _ _ _ => True) 15 := by
    refine Reg.op_ok2 (fun af => { dst := some 94, op := Op.binOp BinOp.eql 24 (Operand.tmp 92) (Operand.tmp 93) 24, type := 4, pos := "outright.go:60", after := af, guard := some (9, true) }) #[{ on := 13, ground := Ground.data }, { on := 14, ground := Ground.data }, { on := 9, ground := Ground.guard }] (by kernel_rfl) [13, 14, 9] (by kernel_rfl) fun af v W hb hd => ?_
    have d9 : v 9 = (Value.bool true) := hd 9 (by decide)
    have d13 : v 13 = (Value.agg (vC l)) := hd 13 (by decide)
    have d14 : v 14 = (Value.agg (vC l)) := hd 14 (by decide)
    have e92 := (Reg.gfr_eval (ops := (Reg.opsOf Try.f3 8)) (a0 := a0) (v := v) (L := [13, 14, 9]) 92 13 (by kernel_rfl) (by rw [hsz]; omega)).trans d13
    have e93 := (Reg.gfr_eval (ops := (Reg.opsOf Try.f3 8)) (a0 := a0) (v := v) (L := [13, 14, 9]) 93 14 (by kernel_rfl) (by rw [hsz]; omega)).trans d14
    have e88 := (Reg.gfr_eval (ops := (Reg.opsOf Try.f3 8)) (a0 := a0) (v := v) (L := [13, 14, 9]) 88 9 (by kernel_rfl) (by rw [hsz]; omega)).trans d9
    refine ⟨Reg.wanted_of rfl (by kernel_rfl) e88, ?_⟩
    generalize Reg.gfr (Reg.opsOf Try.f3 8) a0 v [13, 14, 9] = G at e92 e93 ⊢
    generalize hρ : G.eval = ρ at e92 e93
    have hρ' : G.eval = ρ := hρ
    refine Reg.go_run (Value.bool true) W ?_ ?_
    · rw [hρ']; simp [execOp, go_sem, e92, e93, run_eq_vec W l l hl hl]
    · exact ⟨Below.refl _ _, rfl⟩
  have h16 : Reg.OpOK Try.prog (Reg.opsOf Try.f3 8) a0 w0 (lattice8R a b c u l x y ga gb gc gu gl gx gy) (fun _ _ _ _ => True) 16 := by
    refine Reg.op_ok2 (fun af => { dst := some 95, op := Op.pick (Operand.tmp 88) (Operand.tmp 94) (Operand.const (Value.bool false)), type := 4, pos := "outright.go:60", after := af, guard := none }) #[{ on := 9, ground := Ground.data }, { on := 15, ground := Ground.data }] (by kernel_rfl) [9, 15] (by kernel_rfl) fun af v W hb hd => ?_
    have d9 : v 9 = (Value.bool true) := hd 9 (by decide)
    have d15 : v 15 = (Value.bool true) := hd 15 (by decide)
    have e88 := (Reg.gfr_eval (ops := (Reg.opsOf Try.f3 8)) (a0 := a0) (v := v) (L := [9, 15]) 88 9 (by kernel_rfl) (by rw [hsz]; omega)).trans d9
    have e94 := (Reg.gfr_eval (ops := (Reg.opsOf Try.f3 8)) (a0 := a0) (v := v) (L := [9, 15]) 94 15 (by kernel_rfl) (by rw [hsz]; omega)).trans d15
    refine ⟨Reg.wanted_none rfl, ?_⟩
    have eC : ∀ x, (Reg.gfr (Reg.opsOf Try.f3 8) a0 v [9, 15]).eval (.const x) = x := fun _ => rfl
    generalize Reg.gfr (Reg.opsOf Try.f3 8) a0 v [9, 15] = G at e88 e94 eC ⊢
    generalize hρ : G.eval = ρ at e88 e94 eC
    have hρ' : G.eval = ρ := hρ
    refine Reg.go_run (Value.bool true) W ?_ ?_
    · rw [hρ']; simp [execOp, go_sem, e88, e94, eC]
    · exact ⟨Below.refl _ _, rfl⟩
  have h17 : Reg.OpOK Try.prog (Reg.opsOf Try.f3 8) a0 w0 (lattice8R a b c u l x y ga gb gc gu gl gx gy) (fun _ _ _ _ => True) 17 := by
    refine Reg.op_ok2 (fun af => { dst := some 96, op := Op.move (Operand.tmp 95), type := 4, pos := "outright.go:60", after := af, guard := none }) #[{ on := 16, ground := Ground.data }, { on := 13, ground := Ground.chain }] (by kernel_rfl) [16, 13] (by kernel_rfl) fun af v W hb hd => ?_
    have d16 : v 16 = (Value.bool true) := hd 16 (by decide)
    have e95 := (Reg.gfr_eval (ops := (Reg.opsOf Try.f3 8)) (a0 := a0) (v := v) (L := [16, 13]) 95 16 (by kernel_rfl) (by rw [hsz]; omega)).trans d16
    refine ⟨Reg.wanted_none rfl, ?_⟩
    generalize Reg.gfr (Reg.opsOf Try.f3 8) a0 v [16, 13] = G at e95 ⊢
    generalize hρ : G.eval = ρ at e95
    have hρ' : G.eval = ρ := hρ
    refine Reg.go_run (Value.bool true) W ?_ ?_
    · rw [hρ']; simp [execOp, go_sem, e95]
    · exact ⟨Below.refl _ _, rfl⟩
  have h18 : Reg.OpOK Try.prog (Reg.opsOf Try.f3 8) a0 w0 (lattice8R a b c u l x y ga gb gc gu gl gx gy) (fun _ _ _ _ => True) 18 := by
    refine Reg.op_ok2 (fun af => { dst := some 97, op := Op.load 24 (Operand.tmp 5), type := 24, pos := "outright.go:60", after := af, guard := some (17, true) }) #[{ on := 17, ground := Ground.guard }] (by kernel_rfl) [17] (by kernel_rfl) fun af v W hb hd => ?_
    have d17 : v 17 = (Value.bool true) := hd 17 (by decide)
    have e5 := (Reg.gfr_eval0 (ops := (Reg.opsOf Try.f3 8)) (a0 := a0) (v := v) (L := [17]) 5 (by kernel_rfl)).trans i5
    have e96 := (Reg.gfr_eval (ops := (Reg.opsOf Try.f3 8)) (a0 := a0) (v := v) (L := [17]) 96 17 (by kernel_rfl) (by rw [hsz]; omega)).trans d17
    refine ⟨Reg.wanted_of rfl (by kernel_rfl) e96, ?_⟩
    generalize Reg.gfr (Reg.opsOf Try.f3 8) a0 v [17] = G at e5 ⊢
    generalize hρ : G.eval = ρ at e5
    have hρ' : G.eval = ρ := hρ
    exact fun K hK => wp_load_row 24 (.tmp 5) rfl gc (by rw [hρ']; exact e5) 24 (vC c) (0, 0) _ (M_gc W hb) Try.underlying24 rfl (vec_size hc) (hK _ _ ⟨Below.refl _ _, rfl⟩)
  have h19 : Reg.OpOK Try.prog (Reg.opsOf Try.f3 8) a0 w0 (lattice8R a b c u l x y ga gb gc gu gl gx gy) (fun _ _ _ _ => True) 19 := by
    refine Reg.op_ok2 (fun af => { dst := some 98, op := Op.load 24 (Operand.tmp 8), type := 24, pos := "outright.go:60", after := af, guard := some (17, true) }) #[{ on := 17, ground := Ground.guard }] (by kernel_rfl) [17] (by kernel_rfl) fun af v W hb hd => ?_
    have d17 : v 17 = (Value.bool true) := hd 17 (by decide)
    have e8 := (Reg.gfr_eval0 (ops := (Reg.opsOf Try.f3 8)) (a0 := a0) (v := v) (L := [17]) 8 (by kernel_rfl)).trans i8
    have e96 := (Reg.gfr_eval (ops := (Reg.opsOf Try.f3 8)) (a0 := a0) (v := v) (L := [17]) 96 17 (by kernel_rfl) (by rw [hsz]; omega)).trans d17
    refine ⟨Reg.wanted_of rfl (by kernel_rfl) e96, ?_⟩
    generalize Reg.gfr (Reg.opsOf Try.f3 8) a0 v [17] = G at e8 ⊢
    generalize hρ : G.eval = ρ at e8
    have hρ' : G.eval = ρ := hρ
    exact fun K hK => wp_load_row 24 (.tmp 8) rfl gu (by rw [hρ']; exact e8) 24 (vC u) (0, 0) _ (M_gu W hb) Try.underlying24 rfl (vec_size hu) (hK _ _ ⟨Below.refl _ _, rfl⟩)
  have h20 : Reg.OpOK Try.prog (Reg.opsOf Try.f3 8) a0 w0 (lattice8R a b c u l x y ga gb gc gu gl gx gy) (fun _ _ _ _ => True) 20 := by
    refine Reg.op_ok2 (fun af => { dst := some 99, op := Op.load 24 (Operand.tmp 3), type := 24, pos := "outright.go:60", after := af, guard := some (17, true) }) #[{ on := 17, ground := Ground.guard }] (by kernel_rfl) [17] (by kernel_rfl) fun af v W hb hd => ?_
    have d17 : v 17 = (Value.bool true) := hd 17 (by decide)
    have e3 := (Reg.gfr_eval0 (ops := (Reg.opsOf Try.f3 8)) (a0 := a0) (v := v) (L := [17]) 3 (by kernel_rfl)).trans i3
    have e96 := (Reg.gfr_eval (ops := (Reg.opsOf Try.f3 8)) (a0 := a0) (v := v) (L := [17]) 96 17 (by kernel_rfl) (by rw [hsz]; omega)).trans d17
    refine ⟨Reg.wanted_of rfl (by kernel_rfl) e96, ?_⟩
    generalize Reg.gfr (Reg.opsOf Try.f3 8) a0 v [17] = G at e3 ⊢
    generalize hρ : G.eval = ρ at e3
    have hρ' : G.eval = ρ := hρ
    exact fun K hK => wp_load_row 24 (.tmp 3) rfl ga (by rw [hρ']; exact e3) 24 (vC a) (0, 0) _ (M_ga W hb) Try.underlying24 rfl (vec_size ha) (hK _ _ ⟨Below.refl _ _, rfl⟩)
  have h21 : Reg.OpOK Try.prog (Reg.opsOf Try.f3 8) a0 w0 (lattice8R a b c u l x y ga gb gc gu gl gx gy) (fun _ _ _ _ => True) 21 := by
    refine Reg.op_ok2 (fun af => { dst := some 100, op := Op.buildSlice 43 3 #[(0, Operand.tmp 97), (1, Operand.tmp 98), (2, Operand.tmp 99)], type := 43, pos := "outright.go:60", after := af, guard := some (17, true) }) #[{ on := 18, ground := Ground.data }, { on := 19, ground := Ground.data }, { on := 20, ground := Ground.data }, { on := 17, ground := Ground.guard }] (by kernel_rfl) [18, 19, 20, 17] (by kernel_rfl) fun af v W hb hd => ?_
    have d17 : v 17 = (Value.bool true) := hd 17 (by decide)
    have d18 : v 18 = (Value.agg (vC c)) := hd 18 (by decide)
    have d19 : v 19 = (Value.agg (vC u)) := hd 19 (by decide)
    have d20 : v 20 = (Value.agg (vC a)) := hd 20 (by decide)
    have e97 := (Reg.gfr_eval (ops := (Reg.opsOf Try.f3 8)) (a0 := a0) (v := v) (L := [18, 19, 20, 17]) 97 18 (by kernel_rfl) (by rw [hsz]; omega)).trans d18
    have e98 := (Reg.gfr_eval (ops := (Reg.opsOf Try.f3 8)) (a0 := a0) (v := v) (L := [18, 19, 20, 17]) 98 19 (by kernel_rfl) (by rw [hsz]; omega)).trans d19
    have e99 := (Reg.gfr_eval (ops := (Reg.opsOf Try.f3 8)) (a0 := a0) (v := v) (L := [18, 19, 20, 17]) 99 20 (by kernel_rfl) (by rw [hsz]; omega)).trans d20
    have e96 := (Reg.gfr_eval (ops := (Reg.opsOf Try.f3 8)) (a0 := a0) (v := v) (L := [18, 19, 20, 17]) 96 17 (by kernel_rfl) (by rw [hsz]; omega)).trans d17
    refine ⟨Reg.wanted_of rfl (by kernel_rfl) e96, ?_⟩
    generalize Reg.gfr (Reg.opsOf Try.f3 8) a0 v [18, 19, 20, 17] = G at e97 e98 e99 ⊢
    generalize hρ : G.eval = ρ at e97 e98 e99
    have hρ' : G.eval = ρ := hρ
    exact Reg.go_build 43 24 3 _ rfl Try.underlying43 _ (by rw [hρ']; exact built_vecs [c, u, a] (by simp [hc, hu, ha]) (by simp) (by simp) _ (by simp [e97, e98, e99])) ⟨(Below.refl _ W).alloc (Nat.le_refl _) _, ⟨_, rfl, heap_alloc_new _ _⟩⟩
  have h22 : Reg.OpOK Try.prog (Reg.opsOf Try.f3 8) a0 w0 (lattice8R a b c u l x y ga gb gc gu gl gx gy) (fun _ _ _ _ => True) 22 := by
    refine Reg.op_ok2 (fun af => { dst := some 101, op := Op.call { callee := Callee.value (Operand.func 11), args := #[Operand.tmp 100], argTypes := #[43] }, type := 24, pos := "outright.go:60", after := af, guard := some (17, true) }) #[{ on := 21, ground := Ground.data }, { on := 17, ground := Ground.chain }, { on := 17, ground := Ground.guard }] (by kernel_rfl) [21, 17, 17] (by kernel_rfl) fun af v W hb hd => ?_
    have d17 : v 17 = (Value.bool true) := hd 17 (by decide)
    have d21 : (Reg.IsRow 24 (vecs [c, u, a]).toArray 3) (v 21) W := hd 21 (by decide)
    have e100 := Reg.gfr_eval (ops := (Reg.opsOf Try.f3 8)) (a0 := a0) (v := v) (L := [21, 17, 17]) 100 21 (by kernel_rfl) (by rw [hsz]; omega)
    have e96 := (Reg.gfr_eval (ops := (Reg.opsOf Try.f3 8)) (a0 := a0) (v := v) (L := [21, 17, 17]) 96 17 (by kernel_rfl) (by rw [hsz]; omega)).trans d17
    obtain ⟨gr, hg1, hg2⟩ := d21
    rw [hg1] at e100
    refine ⟨Reg.wanted_of rfl (by kernel_rfl) e96, ?_⟩
    have eF : ∀ f, (Reg.gfr (Reg.opsOf Try.f3 8) a0 v [21, 17, 17]).eval (.func f) = .func (.func f) #[] #[] := fun _ => rfl
    generalize Reg.gfr (Reg.opsOf Try.f3 8) a0 v [21, 17, 17] = G at e100 eF ⊢
    generalize hρ : G.eval = ρ at e100 eF
    have hρ' : G.eval = ρ := hρ
    refine Reg.go_call 11 #[(Value.slice (some ⟨gr, 0, none⟩) 3 3)] (by rw [hρ']; simp [execOp, go_sem, e100, eF]) ((merge3 c u a hc hu ha W gr hg2).mono fun e w' he => ?_)
    obtain ⟨rfl, hbb⟩ := he
    exact ⟨_, rfl, hbb, (show _ = _ from by rw [f3])⟩
  have h23 : Reg.OpOK Try.prog (Reg.opsOf Try.f3 8) a0 w0 (lattice8R a b c u l x y ga gb gc gu gl gx gy) (fun _ _ _ _ => True) 23 := by
    refine Reg.op_ok2 (fun af => { dst := some 102, op := Op.load 24 (Operand.tmp 10), type := 24, pos := "outright.go:60", after := af, guard := some (17, true) }) #[{ on := 17, ground := Ground.guard }] (by kernel_rfl) [17] (by kernel_rfl) fun af v W hb hd => ?_
    have d17 : v 17 = (Value.bool true) := hd 17 (by decide)
    have e10 := (Reg.gfr_eval0 (ops := (Reg.opsOf Try.f3 8)) (a0 := a0) (v := v) (L := [17]) 10 (by kernel_rfl)).trans i10
    have e96 := (Reg.gfr_eval (ops := (Reg.opsOf Try.f3 8)) (a0 := a0) (v := v) (L := [17]) 96 17 (by kernel_rfl) (by rw [hsz]; omega)).trans d17
    refine ⟨Reg.wanted_of rfl (by kernel_rfl) e96, ?_⟩
    generalize Reg.gfr (Reg.opsOf Try.f3 8) a0 v [17] = G at e10 ⊢
    generalize hρ : G.eval = ρ at e10
    have hρ' : G.eval = ρ := hρ
    exact fun K hK => wp_load_row 24 (.tmp 10) rfl gx (by rw [hρ']; exact e10) 24 (vC x) (0, 0) _ (M_gx W hb) Try.underlying24 rfl (vec_size hx') (hK _ _ ⟨Below.refl _ _, rfl⟩)
  have h24 : Reg.OpOK Try.prog (Reg.opsOf Try.f3 8) a0 w0 (lattice8R a b c u l x y ga gb gc gu gl gx gy) (fun _ _ _ _ => True) 24 := by
    refine Reg.op_ok2 (fun af => { dst := some 103, op := Op.binOp BinOp.eql 24 (Operand.tmp 101) (Operand.tmp 102) 24, type := 4, pos := "outright.go:60", after := af, guard := some (17, true) }) #[{ on := 22, ground := Ground.data }, { on := 23, ground := Ground.data }, { on := 17, ground := Ground.guard }] (by kernel_rfl) [22, 23, 17] (by kernel_rfl) fun af v W hb hd => ?_
    have d17 : v 17 = (Value.bool true) := hd 17 (by decide)
    have d22 : v 22 = (Value.agg (vC x)) := hd 22 (by decide)
    have d23 : v 23 = (Value.agg (vC x)) := hd 23 (by decide)
    have e101 := (Reg.gfr_eval (ops := (Reg.opsOf Try.f3 8)) (a0 := a0) (v := v) (L := [22, 23, 17]) 101 22 (by kernel_rfl) (by rw [hsz]; omega)).trans d22
    have e102 := (Reg.gfr_eval (ops := (Reg.opsOf Try.f3 8)) (a0 := a0) (v := v) (L := [22, 23, 17]) 102 23 (by kernel_rfl) (by rw [hsz]; omega)).trans d23
    have e96 := (Reg.gfr_eval (ops := (Reg.opsOf Try.f3 8)) (a0 := a0) (v := v) (L := [22, 23, 17]) 96 17 (by kernel_rfl) (by rw [hsz]; omega)).trans d17
    refine ⟨Reg.wanted_of rfl (by kernel_rfl) e96, ?_⟩
    generalize Reg.gfr (Reg.opsOf Try.f3 8) a0 v [22, 23, 17] = G at e101 e102 ⊢
    generalize hρ : G.eval = ρ at e101 e102
    have hρ' : G.eval = ρ := hρ
    refine Reg.go_run (Value.bool true) W ?_ ?_
    · rw [hρ']; simp [execOp, go_sem, e101, e102, run_eq_vec W x x hx' hx']
    · exact ⟨Below.refl _ _, rfl⟩
  have h25 : Reg.OpOK Try.prog (Reg.opsOf Try.f3 8) a0 w0 (lattice8R a b c u l x y ga gb gc gu gl gx gy) (fun _ _ _ _ => True) 25 := by
    refine Reg.op_ok2 (fun af => { dst := some 104, op := Op.pick (Operand.tmp 96) (Operand.tmp 103) (Operand.const (Value.bool false)), type := 4, pos := "outright.go:60", after := af, guard := none }) #[{ on := 17, ground := Ground.data }, { on := 24, ground := Ground.data }] (by kernel_rfl) [17, 24] (by kernel_rfl) fun af v W hb hd => ?_
    have d17 : v 17 = (Value.bool true) := hd 17 (by decide)
    have d24 : v 24 = (Value.bool true) := hd 24 (by decide)
    have e96 := (Reg.gfr_eval (ops := (Reg.opsOf Try.f3 8)) (a0 := a0) (v := v) (L := [17, 24]) 96 17 (by kernel_rfl) (by rw [hsz]; omega)).trans d17
    have e103 := (Reg.gfr_eval (ops := (Reg.opsOf Try.f3 8)) (a0 := a0) (v := v) (L := [17, 24]) 103 24 (by kernel_rfl) (by rw [hsz]; omega)).trans d24
    refine ⟨Reg.wanted_none rfl, ?_⟩
    have eC : ∀ x, (Reg.gfr (Reg.opsOf Try.f3 8) a0 v [17, 24]).eval (.const x) = x := fun _ => rfl
    generalize Reg.gfr (Reg.opsOf Try.f3 8) a0 v [17, 24] = G at e96 e103 eC ⊢
    generalize hρ : G.eval = ρ at e96 e103 eC
    have hρ' : G.eval = ρ := hρ
    refine Reg.go_run (Value.bool true) W ?_ ?_
    · rw [hρ']; simp [execOp, go_sem, e96, e103, eC]
    · exact ⟨Below.refl _ _, rfl⟩
  have h26 : Reg.OpOK Try.prog (Reg.opsOf Try.f3 8) a0 w0 (lattice8R a b c u l x y ga gb gc gu gl gx gy) (fun _ _ _ _ => True) 26 := by
    refine Reg.op_ok2 (fun af => { dst := some 105, op := Op.move (Operand.tmp 104), type := 4, pos := "outright.go:60", after := af, guard := none }) #[{ on := 25, ground := Ground.data }, { on := 22, ground := Ground.chain }] (by kernel_rfl) [25, 22] (by kernel_rfl) fun af v W hb hd => ?_
    have d25 : v 25 = (Value.bool true) := hd 25 (by decide)
    have e104 := (Reg.gfr_eval (ops := (Reg.opsOf Try.f3 8)) (a0 := a0) (v := v) (L := [25, 22]) 104 25 (by kernel_rfl) (by rw [hsz]; omega)).trans d25
    refine ⟨Reg.wanted_none rfl, ?_⟩
    generalize Reg.gfr (Reg.opsOf Try.f3 8) a0 v [25, 22] = G at e104 ⊢
    generalize hρ : G.eval = ρ at e104
    have hρ' : G.eval = ρ := hρ
    refine Reg.go_run (Value.bool true) W ?_ ?_
    · rw [hρ']; simp [execOp, go_sem, e104]
    · exact ⟨Below.refl _ _, rfl⟩
  have h27 : Reg.OpOK Try.prog (Reg.opsOf Try.f3 8) a0 w0 (lattice8R a b c u l x y ga gb gc gu gl gx gy) (fun _ _ _ _ => True) 27 := by
    refine Reg.op_ok2 (fun af => { dst := some 106, op := Op.load 24 (Operand.tmp 5), type := 24, pos := "outright.go:60", after := af, guard := some (26, true) }) #[{ on := 26, ground := Ground.guard }] (by kernel_rfl) [26] (by kernel_rfl) fun af v W hb hd => ?_
    have d26 : v 26 = (Value.bool true) := hd 26 (by decide)
    have e5 := (Reg.gfr_eval0 (ops := (Reg.opsOf Try.f3 8)) (a0 := a0) (v := v) (L := [26]) 5 (by kernel_rfl)).trans i5
    have e105 := (Reg.gfr_eval (ops := (Reg.opsOf Try.f3 8)) (a0 := a0) (v := v) (L := [26]) 105 26 (by kernel_rfl) (by rw [hsz]; omega)).trans d26
    refine ⟨Reg.wanted_of rfl (by kernel_rfl) e105, ?_⟩
    generalize Reg.gfr (Reg.opsOf Try.f3 8) a0 v [26] = G at e5 ⊢
    generalize hρ : G.eval = ρ at e5
    have hρ' : G.eval = ρ := hρ
    exact fun K hK => wp_load_row 24 (.tmp 5) rfl gc (by rw [hρ']; exact e5) 24 (vC c) (0, 0) _ (M_gc W hb) Try.underlying24 rfl (vec_size hc) (hK _ _ ⟨Below.refl _ _, rfl⟩)
  have h28 : Reg.OpOK Try.prog (Reg.opsOf Try.f3 8) a0 w0 (lattice8R a b c u l x y ga gb gc gu gl gx gy) (fun _ _ _ _ => True) 28 := by
    refine Reg.op_ok2 (fun af => { dst := some 107, op := Op.load 24 (Operand.tmp 9), type := 24, pos := "outright.go:60", after := af, guard := some (26, true) }) #[{ on := 26, ground := Ground.guard }] (by kernel_rfl) [26] (by kernel_rfl) fun af v W hb hd => ?_
    have d26 : v 26 = (Value.bool true) := hd 26 (by decide)
    have e9 := (Reg.gfr_eval0 (ops := (Reg.opsOf Try.f3 8)) (a0 := a0) (v := v) (L := [26]) 9 (by kernel_rfl)).trans i9
    have e105 := (Reg.gfr_eval (ops := (Reg.opsOf Try.f3 8)) (a0 := a0) (v := v) (L := [26]) 105 26 (by kernel_rfl) (by rw [hsz]; omega)).trans d26
    refine ⟨Reg.wanted_of rfl (by kernel_rfl) e105, ?_⟩
    generalize Reg.gfr (Reg.opsOf Try.f3 8) a0 v [26] = G at e9 ⊢
    generalize hρ : G.eval = ρ at e9
    have hρ' : G.eval = ρ := hρ
    exact fun K hK => wp_load_row 24 (.tmp 9) rfl gl (by rw [hρ']; exact e9) 24 (vC l) (0, 0) _ (M_gl W hb) Try.underlying24 rfl (vec_size hl) (hK _ _ ⟨Below.refl _ _, rfl⟩)
  have h29 : Reg.OpOK Try.prog (Reg.opsOf Try.f3 8) a0 w0 (lattice8R a b c u l x y ga gb gc gu gl gx gy) (fun _ _ _ _ => True) 29 := by
    refine Reg.op_ok2 (fun af => { dst := some 108, op := Op.load 24 (Operand.tmp 3), type := 24, pos := "outright.go:60", after := af, guard := some (26, true) }) #[{ on := 26, ground := Ground.guard }] (by kernel_rfl) [26] (by kernel_rfl) fun af v W hb hd => ?_
    have d26 : v 26 = (Value.bool true) := hd 26 (by decide)
    have e3 := (Reg.gfr_eval0 (ops := (Reg.opsOf Try.f3 8)) (a0 := a0) (v := v) (L := [26]) 3 (by kernel_rfl)).trans i3
    have e105 := (Reg.gfr_eval (ops := (Reg.opsOf Try.f3 8)) (a0 := a0) (v := v) (L := [26]) 105 26 (by kernel_rfl) (by rw [hsz]; omega)).trans d26
    refine ⟨Reg.wanted_of rfl (by kernel_rfl) e105, ?_⟩
    generalize Reg.gfr (Reg.opsOf Try.f3 8) a0 v [26] = G at e3 ⊢
    generalize hρ : G.eval = ρ at e3
    have hρ' : G.eval = ρ := hρ
    exact fun K hK => wp_load_row 24 (.tmp 3) rfl ga (by rw [hρ']; exact e3) 24 (vC a) (0, 0) _ (M_ga W hb) Try.underlying24 rfl (vec_size ha) (hK _ _ ⟨Below.refl _ _, rfl⟩)
  have h30 : Reg.OpOK Try.prog (Reg.opsOf Try.f3 8) a0 w0 (lattice8R a b c u l x y ga gb gc gu gl gx gy) (fun _ _ _ _ => True) 30 := by
    refine Reg.op_ok2 (fun af => { dst := some 109, op := Op.buildSlice 43 3 #[(0, Operand.tmp 106), (1, Operand.tmp 107), (2, Operand.tmp 108)], type := 43, pos := "outright.go:60", after := af, guard := some (26, true) }) #[{ on := 27, ground := Ground.data }, { on := 28, ground := Ground.data }, { on := 29, ground := Ground.data }, { on := 26, ground := Ground.guard }] (by kernel_rfl) [27, 28, 29, 26] (by kernel_rfl) fun af v W hb hd => ?_
    have d26 : v 26 = (Value.bool true) := hd 26 (by decide)
    have d27 : v 27 = (Value.agg (vC c)) := hd 27 (by decide)
    have d28 : v 28 = (Value.agg (vC l)) := hd 28 (by decide)
    have d29 : v 29 = (Value.agg (vC a)) := hd 29 (by decide)
    have e106 := (Reg.gfr_eval (ops := (Reg.opsOf Try.f3 8)) (a0 := a0) (v := v) (L := [27, 28, 29, 26]) 106 27 (by kernel_rfl) (by rw [hsz]; omega)).trans d27
    have e107 := (Reg.gfr_eval (ops := (Reg.opsOf Try.f3 8)) (a0 := a0) (v := v) (L := [27, 28, 29, 26]) 107 28 (by kernel_rfl) (by rw [hsz]; omega)).trans d28
    have e108 := (Reg.gfr_eval (ops := (Reg.opsOf Try.f3 8)) (a0 := a0) (v := v) (L := [27, 28, 29, 26]) 108 29 (by kernel_rfl) (by rw [hsz]; omega)).trans d29
    have e105 := (Reg.gfr_eval (ops := (Reg.opsOf Try.f3 8)) (a0 := a0) (v := v) (L := [27, 28, 29, 26]) 105 26 (by kernel_rfl) (by rw [hsz]; omega)).trans d26
    refine ⟨Reg.wanted_of rfl (by kernel_rfl) e105, ?_⟩
    generalize Reg.gfr (Reg.opsOf Try.f3 8) a0 v [27, 28, 29, 26] = G at e106 e107 e108 ⊢
    generalize hρ : G.eval = ρ at e106 e107 e108
    have hρ' : G.eval = ρ := hρ
    exact Reg.go_build 43 24 3 _ rfl Try.underlying43 _ (by rw [hρ']; exact built_vecs [c, l, a] (by simp [hc, hl, ha]) (by simp) (by simp) _ (by simp [e106, e107, e108])) ⟨(Below.refl _ W).alloc (Nat.le_refl _) _, ⟨_, rfl, heap_alloc_new _ _⟩⟩
  have h31 : Reg.OpOK Try.prog (Reg.opsOf Try.f3 8) a0 w0 (lattice8R a b c u l x y ga gb gc gu gl gx gy) (fun _ _ _ _ => True) 31 := by
    refine Reg.op_ok2 (fun af => { dst := some 110, op := Op.call { callee := Callee.value (Operand.func 12), args := #[Operand.tmp 109], argTypes := #[43] }, type := 24, pos := "outright.go:60", after := af, guard := some (26, true) }) #[{ on := 30, ground := Ground.data }, { on := 26, ground := Ground.chain }, { on := 26, ground := Ground.guard }] (by kernel_rfl) [30, 26, 26] (by kernel_rfl) fun af v W hb hd => ?_
    have d26 : v 26 = (Value.bool true) := hd 26 (by decide)
    have d30 : (Reg.IsRow 24 (vecs [c, l, a]).toArray 3) (v 30) W := hd 30 (by decide)
    have e109 := Reg.gfr_eval (ops := (Reg.opsOf Try.f3 8)) (a0 := a0) (v := v) (L := [30, 26, 26]) 109 30 (by kernel_rfl) (by rw [hsz]; omega)
    have e105 := (Reg.gfr_eval (ops := (Reg.opsOf Try.f3 8)) (a0 := a0) (v := v) (L := [30, 26, 26]) 105 26 (by kernel_rfl) (by rw [hsz]; omega)).trans d26
    obtain ⟨gr, hg1, hg2⟩ := d30
    rw [hg1] at e109
    refine ⟨Reg.wanted_of rfl (by kernel_rfl) e105, ?_⟩
    have eF : ∀ f, (Reg.gfr (Reg.opsOf Try.f3 8) a0 v [30, 26, 26]).eval (.func f) = .func (.func f) #[] #[] := fun _ => rfl
    generalize Reg.gfr (Reg.opsOf Try.f3 8) a0 v [30, 26, 26] = G at e109 eF ⊢
    generalize hρ : G.eval = ρ at e109 eF
    have hρ' : G.eval = ρ := hρ
    refine Reg.go_call 12 #[(Value.slice (some ⟨gr, 0, none⟩) 3 3)] (by rw [hρ']; simp [execOp, go_sem, e109, eF]) ((meet3 c l a hc hl ha W gr hg2).mono fun e w' he => ?_)
    obtain ⟨rfl, hbb⟩ := he
    exact ⟨_, rfl, hbb, (show _ = _ from by rw [f4])⟩
  have h32 : Reg.OpOK Try.prog (Reg.opsOf Try.f3 8) a0 w0 (lattice8R a b c u l x y ga gb gc gu gl gx gy) (fun _ _ _ _ => True) 32 := by
    refine Reg.op_ok2 (fun af => { dst := some 111, op := Op.load 24 (Operand.tmp 11), type := 24, pos := "outright.go:60", after := af, guard := some (26, true) }) #[{ on := 26, ground := Ground.guard }] (by kernel_rfl) [26] (by kernel_rfl) fun af v W hb hd => ?_
    have d26 : v 26 = (Value.bool true) := hd 26 (by decide)
    have e11 := (Reg.gfr_eval0 (ops := (Reg.opsOf Try.f3 8)) (a0 := a0) (v := v) (L := [26]) 11 (by kernel_rfl)).trans i11
    have e105 := (Reg.gfr_eval (ops := (Reg.opsOf Try.f3 8)) (a0 := a0) (v := v) (L := [26]) 105 26 (by kernel_rfl) (by rw [hsz]; omega)).trans d26
    refine ⟨Reg.wanted_of rfl (by kernel_rfl) e105, ?_⟩
    generalize Reg.gfr (Reg.opsOf Try.f3 8) a0 v [26] = G at e11 ⊢
    generalize hρ : G.eval = ρ at e11
    have hρ' : G.eval = ρ := hρ
    exact fun K hK => wp_load_row 24 (.tmp 11) rfl gy (by rw [hρ']; exact e11) 24 (vC y) (0, 0) _ (M_gy W hb) Try.underlying24 rfl (vec_size hy) (hK _ _ ⟨Below.refl _ _, rfl⟩)
  have h33 : Reg.OpOK Try.prog (Reg.opsOf Try.f3 8) a0 w0 (lattice8R a b c u l x y ga gb gc gu gl gx gy) (fun _ _ _ _ => True) 33 := by
    refine Reg.op_ok2 (fun af => { dst := some 112, op := Op.binOp BinOp.eql 24 (Operand.tmp 110) (Operand.tmp 111) 24, type := 4, pos := "outright.go:60", after := af, guard := some (26, true) }) #[{ on := 31, ground := Ground.data }, { on := 32, ground := Ground.data }, { on := 26, ground := Ground.guard }] (by kernel_rfl) [31, 32, 26] (by kernel_rfl) fun af v W hb hd => ?_
    have d26 : v 26 = (Value.bool true) := hd 26 (by decide)
    have d31 : v 31 = (Value.agg (vC y)) := hd 31 (by decide)
    have d32 : v 32 = (Value.agg (vC y)) := hd 32 (by decide)
    have e110 := (Reg.gfr_eval (ops := (Reg.opsOf Try.f3 8)) (a0 := a0) (v := v) (L := [31, 32, 26]) 110 31 (by kernel_rfl) (by rw [hsz]; omega)).trans d31
    have e111 := (Reg.gfr_eval (ops := (Reg.opsOf Try.f3 8)) (a0 := a0) (v := v) (L := [31, 32, 26]) 111 32 (by kernel_rfl) (by rw [hsz]; omega)).trans d32
    have e105 := (Reg.gfr_eval (ops := (Reg.opsOf Try.f3 8)) (a0 := a0) (v := v) (L := [31, 32, 26]) 105 26 (by kernel_rfl) (by rw [hsz]; omega)).trans d26
    refine ⟨Reg.wanted_of rfl (by kernel_rfl) e105, ?_⟩
    generalize Reg.gfr (Reg.opsOf Try.f3 8) a0 v [31, 32, 26] = G at e110 e111 ⊢
    generalize hρ : G.eval = ρ at e110 e111
    have hρ' : G.eval = ρ := hρ
    refine Reg.go_run (Value.bool true) W ?_ ?_
    · rw [hρ']; simp [execOp, go_sem, e110, e111, run_eq_vec W y y hy hy]
    · exact ⟨Below.refl _ _, rfl⟩
  have h34 : Reg.OpOK Try.prog (Reg.opsOf Try.f3 8) a0 w0 (lattice8R a b c u l x y ga gb gc gu gl gx gy) (fun _ _ _ _ => True) 34 := by
    refine Reg.op_ok2 (fun af => { dst := some 113, op := Op.pick (Operand.tmp 105) (Operand.tmp 112) (Operand.const (Value.bool false)), type := 4, pos := "outright.go:60", after := af, guard := none }) #[{ on := 26, ground := Ground.data }, { on := 33, ground := Ground.data }] (by kernel_rfl) [26, 33] (by kernel_rfl) fun af v W hb hd => ?_
    have d26 : v 26 = (Value.bool true) := hd 26 (by decide)
    have d33 : v 33 = (Value.bool true) := hd 33 (by decide)
    have e105 := (Reg.gfr_eval (ops := (Reg.opsOf Try.f3 8)) (a0 := a0) (v := v) (L := [26, 33]) 105 26 (by kernel_rfl) (by rw [hsz]; omega)).trans d26
    have e112 := (Reg.gfr_eval (ops := (Reg.opsOf Try.f3 8)) (a0 := a0) (v := v) (L := [26, 33]) 112 33 (by kernel_rfl) (by rw [hsz]; omega)).trans d33
    refine ⟨Reg.wanted_none rfl, ?_⟩
    have eC : ∀ x, (Reg.gfr (Reg.opsOf Try.f3 8) a0 v [26, 33]).eval (.const x) = x := fun _ => rfl
    generalize Reg.gfr (Reg.opsOf Try.f3 8) a0 v [26, 33] = G at e105 e112 eC ⊢
    generalize hρ : G.eval = ρ at e105 e112 eC
    have hρ' : G.eval = ρ := hρ
    refine Reg.go_run (Value.bool true) W ?_ ?_
    · rw [hρ']; simp [execOp, go_sem, e105, e112, eC]
    · exact ⟨Below.refl _ _, rfl⟩
  have h35 : Reg.OpOK Try.prog (Reg.opsOf Try.f3 8) a0 w0 (lattice8R a b c u l x y ga gb gc gu gl gx gy) (fun _ _ _ _ => True) 35 := by
    refine Reg.op_ok2 (fun af => { dst := some 114, op := Op.move (Operand.tmp 113), type := 4, pos := "outright.go:60", after := af, guard := none }) #[{ on := 34, ground := Ground.data }, { on := 31, ground := Ground.chain }] (by kernel_rfl) [34, 31] (by kernel_rfl) fun af v W hb hd => ?_
    have d34 : v 34 = (Value.bool true) := hd 34 (by decide)
    have e113 := (Reg.gfr_eval (ops := (Reg.opsOf Try.f3 8)) (a0 := a0) (v := v) (L := [34, 31]) 113 34 (by kernel_rfl) (by rw [hsz]; omega)).trans d34
    refine ⟨Reg.wanted_none rfl, ?_⟩
    generalize Reg.gfr (Reg.opsOf Try.f3 8) a0 v [34, 31] = G at e113 ⊢
    generalize hρ : G.eval = ρ at e113
    have hρ' : G.eval = ρ := hρ
    refine Reg.go_run (Value.bool true) W ?_ ?_
    · rw [hρ']; simp [execOp, go_sem, e113]
    · exact ⟨Below.refl _ _, rfl⟩
  have h36 : Reg.OpOK Try.prog (Reg.opsOf Try.f3 8) a0 w0 (lattice8R a b c u l x y ga gb gc gu gl gx gy) (fun _ _ _ _ => True) 36 := by
    refine Reg.op_ok2 (fun af => { dst := some 115, op := Op.load 24 (Operand.tmp 3), type := 24, pos := "outright.go:60", after := af, guard := some (35, true) }) #[{ on := 35, ground := Ground.guard }] (by kernel_rfl) [35] (by kernel_rfl) fun af v W hb hd => ?_
    have d35 : v 35 = (Value.bool true) := hd 35 (by decide)
    have e3 := (Reg.gfr_eval0 (ops := (Reg.opsOf Try.f3 8)) (a0 := a0) (v := v) (L := [35]) 3 (by kernel_rfl)).trans i3
    have e114 := (Reg.gfr_eval (ops := (Reg.opsOf Try.f3 8)) (a0 := a0) (v := v) (L := [35]) 114 35 (by kernel_rfl) (by rw [hsz]; omega)).trans d35
    refine ⟨Reg.wanted_of rfl (by kernel_rfl) e114, ?_⟩
    generalize Reg.gfr (Reg.opsOf Try.f3 8) a0 v [35] = G at e3 ⊢
    generalize hρ : G.eval = ρ at e3
    have hρ' : G.eval = ρ := hρ
    exact fun K hK => wp_load_row 24 (.tmp 3) rfl ga (by rw [hρ']; exact e3) 24 (vC a) (0, 0) _ (M_ga W hb) Try.underlying24 rfl (vec_size ha) (hK _ _ ⟨Below.refl _ _, rfl⟩)
  have h37 : Reg.OpOK Try.prog (Reg.opsOf Try.f3 8) a0 w0 (lattice8R a b c u l x y ga gb gc gu gl gx gy) (fun _ _ _ _ => True) 37 := by
    refine Reg.op_ok2 (fun af => { dst := some 116, op := Op.load 24 (Operand.tmp 3), type := 24, pos := "outright.go:60", after := af, guard := some (35, true) }) #[{ on := 35, ground := Ground.guard }] (by kernel_rfl) [35] (by kernel_rfl) fun af v W hb hd => ?_
    have d35 : v 35 = (Value.bool true) := hd 35 (by decide)
    have e3 := (Reg.gfr_eval0 (ops := (Reg.opsOf Try.f3 8)) (a0 := a0) (v := v) (L := [35]) 3 (by kernel_rfl)).trans i3
    have e114 := (Reg.gfr_eval (ops := (Reg.opsOf Try.f3 8)) (a0 := a0) (v := v) (L := [35]) 114 35 (by kernel_rfl) (by rw [hsz]; omega)).trans d35
    refine ⟨Reg.wanted_of rfl (by kernel_rfl) e114, ?_⟩
    generalize Reg.gfr (Reg.opsOf Try.f3 8) a0 v [35] = G at e3 ⊢
    generalize hρ : G.eval = ρ at e3
    have hρ' : G.eval = ρ := hρ
    exact fun K hK => wp_load_row 24 (.tmp 3) rfl ga (by rw [hρ']; exact e3) 24 (vC a) (0, 0) _ (M_ga W hb) Try.underlying24 rfl (vec_size ha) (hK _ _ ⟨Below.refl _ _, rfl⟩)
  have h38 : Reg.OpOK Try.prog (Reg.opsOf Try.f3 8) a0 w0 (lattice8R a b c u l x y ga gb gc gu gl gx gy) (fun _ _ _ _ => True) 38 := by
    refine Reg.op_ok2 (fun af => { dst := some 117, op := Op.buildSlice 43 2 #[(0, Operand.tmp 115), (1, Operand.tmp 116)], type := 43, pos := "outright.go:60", after := af, guard := some (35, true) }) #[{ on := 36, ground := Ground.data }, { on := 37, ground := Ground.data }, { on := 35, ground := Ground.guard }] (by kernel_rfl) [36, 37, 35] (by kernel_rfl) fun af v W hb hd => ?_
    have d35 : v 35 = (Value.bool true) := hd 35 (by decide)
    have d36 : v 36 = (Value.agg (vC a)) := hd 36 (by decide)
    have d37 : v 37 = (Value.agg (vC a)) := hd 37 (by decide)
    have e115 := (Reg.gfr_eval (ops := (Reg.opsOf Try.f3 8)) (a0 := a0) (v := v) (L := [36, 37, 35]) 115 36 (by kernel_rfl) (by rw [hsz]; omega)).trans d36
    have e116 := (Reg.gfr_eval (ops := (Reg.opsOf Try.f3 8)) (a0 := a0) (v := v) (L := [36, 37, 35]) 116 37 (by kernel_rfl) (by rw [hsz]; omega)).trans d37
    have e114 := (Reg.gfr_eval (ops := (Reg.opsOf Try.f3 8)) (a0 := a0) (v := v) (L := [36, 37, 35]) 114 35 (by kernel_rfl) (by rw [hsz]; omega)).trans d35
    refine ⟨Reg.wanted_of rfl (by kernel_rfl) e114, ?_⟩
    generalize Reg.gfr (Reg.opsOf Try.f3 8) a0 v [36, 37, 35] = G at e115 e116 ⊢
    generalize hρ : G.eval = ρ at e115 e116
    have hρ' : G.eval = ρ := hρ
    exact Reg.go_build 43 24 2 _ rfl Try.underlying43 _ (by rw [hρ']; exact built_vecs [a, a] (by simp [ha]) (by simp) (by simp) _ (by simp [e115, e116])) ⟨(Below.refl _ W).alloc (Nat.le_refl _) _, ⟨_, rfl, heap_alloc_new _ _⟩⟩
  have h39 : Reg.OpOK Try.prog (Reg.opsOf Try.f3 8) a0 w0 (lattice8R a b c u l x y ga gb gc gu gl gx gy) (fun _ _ _ _ => True) 39 := by
    refine Reg.op_ok2 (fun af => { dst := some 118, op := Op.call { callee := Callee.value (Operand.func 11), args := #[Operand.tmp 117], argTypes := #[43] }, type := 24, pos := "outright.go:60", after := af, guard := some (35, true) }) #[{ on := 38, ground := Ground.data }, { on := 35, ground := Ground.chain }, { on := 35, ground := Ground.guard }] (by kernel_rfl) [38, 35, 35] (by kernel_rfl) fun af v W hb hd => ?_
    have d35 : v 35 = (Value.bool true) := hd 35 (by decide)
    have d38 : (Reg.IsRow 24 (vecs [a, a]).toArray 2) (v 38) W := hd 38 (by decide)
    have e117 := Reg.gfr_eval (ops := (Reg.opsOf Try.f3 8)) (a0 := a0) (v := v) (L := [38, 35, 35]) 117 38 (by kernel_rfl) (by rw [hsz]; omega)
    have e114 := (Reg.gfr_eval (ops := (Reg.opsOf Try.f3 8)) (a0 := a0) (v := v) (L := [38, 35, 35]) 114 35 (by kernel_rfl) (by rw [hsz]; omega)).trans d35
    obtain ⟨gr, hg1, hg2⟩ := d38
    rw [hg1] at e117
    refine ⟨Reg.wanted_of rfl (by kernel_rfl) e114, ?_⟩
    have eF : ∀ f, (Reg.gfr (Reg.opsOf Try.f3 8) a0 v [38, 35, 35]).eval (.func f) = .func (.func f) #[] #[] := fun _ => rfl
    generalize Reg.gfr (Reg.opsOf Try.f3 8) a0 v [38, 35, 35] = G at e117 eF ⊢
    generalize hρ : G.eval = ρ at e117 eF
    have hρ' : G.eval = ρ := hρ
    refine Reg.go_call 11 #[(Value.slice (some ⟨gr, 0, none⟩) 2 2)] (by rw [hρ']; simp [execOp, go_sem, e117, eF]) ((merge2 a a ha ha W gr hg2).mono fun e w' he => ?_)
    obtain ⟨rfl, hbb⟩ := he
    exact ⟨_, rfl, hbb, (show _ = _ from by rw [f5])⟩
  have h40 : Reg.OpOK Try.prog (Reg.opsOf Try.f3 8) a0 w0 (lattice8R a b c u l x y ga gb gc gu gl gx gy) (fun _ _ _ _ => True) 40 := by
    refine Reg.op_ok2 (fun af => { dst := some 119, op := Op.load 24 (Operand.tmp 3), type := 24, pos := "outright.go:60", after := af, guard := some (35, true) }) #[{ on := 35, ground := Ground.guard }] (by kernel_rfl) [35] (by kernel_rfl) fun af v W hb hd => ?_
    have d35 : v 35 = (Value.bool true) := hd 35 (by decide)
    have e3 := (Reg.gfr_eval0 (ops := (Reg.opsOf Try.f3 8)) (a0 := a0) (v := v) (L := [35]) 3 (by kernel_rfl)).trans i3
    have e114 := (Reg.gfr_eval (ops := (Reg.opsOf Try.f3 8)) (a0 := a0) (v := v) (L := [35]) 114 35 (by kernel_rfl) (by rw [hsz]; omega)).trans d35
    refine ⟨Reg.wanted_of rfl (by kernel_rfl) e114, ?_⟩
    generalize Reg.gfr (Reg.opsOf Try.f3 8) a0 v [35] = G at e3 ⊢
    generalize hρ : G.eval = ρ at e3
    have hρ' : G.eval = ρ := hρ
    exact fun K hK => wp_load_row 24 (.tmp 3) rfl ga (by rw [hρ']; exact e3) 24 (vC a) (0, 0) _ (M_ga W hb) Try.underlying24 rfl (vec_size ha) (hK _ _ ⟨Below.refl _ _, rfl⟩)
  have h41 : Reg.OpOK Try.prog (Reg.opsOf Try.f3 8) a0 w0 (lattice8R a b c u l x y ga gb gc gu gl gx gy) (fun _ _ _ _ => True) 41 := by
    refine Reg.op_ok2 (fun af => { dst := some 120, op := Op.binOp BinOp.eql 24 (Operand.tmp 118) (Operand.tmp 119) 24, type := 4, pos := "outright.go:60", after := af, guard := some (35, true) }) #[{ on := 39, ground := Ground.data }, { on := 40, ground := Ground.data }, { on := 35, ground := Ground.guard }] (by kernel_rfl) [39, 40, 35] (by kernel_rfl) fun af v W hb hd => ?_
    have d35 : v 35 = (Value.bool true) := hd 35 (by decide)
    have d39 : v 39 = (Value.agg (vC a)) := hd 39 (by decide)
    have d40 : v 40 = (Value.agg (vC a)) := hd 40 (by decide)
    have e118 := (Reg.gfr_eval (ops := (Reg.opsOf Try.f3 8)) (a0 := a0) (v := v) (L := [39, 40, 35]) 118 39 (by kernel_rfl) (by rw [hsz]; omega)).trans d39
    have e119 := (Reg.gfr_eval (ops := (Reg.opsOf Try.f3 8)) (a0 := a0) (v := v) (L := [39, 40, 35]) 119 40 (by kernel_rfl) (by rw [hsz]; omega)).trans d40
    have e114 := (Reg.gfr_eval (ops := (Reg.opsOf Try.f3 8)) (a0 := a0) (v := v) (L := [39, 40, 35]) 114 35 (by kernel_rfl) (by rw [hsz]; omega)).trans d35
    refine ⟨Reg.wanted_of rfl (by kernel_rfl) e114, ?_⟩
    generalize Reg.gfr (Reg.opsOf Try.f3 8) a0 v [39, 40, 35] = G at e118 e119 ⊢
    generalize hρ : G.eval = ρ at e118 e119
    have hρ' : G.eval = ρ := hρ
    refine Reg.go_run (Value.bool true) W ?_ ?_
    · rw [hρ']; simp [execOp, go_sem, e118, e119, run_eq_vec W a a ha ha]
    · exact ⟨Below.refl _ _, rfl⟩
  have h42 : Reg.OpOK Try.prog (Reg.opsOf Try.f3 8) a0 w0 (lattice8R a b c u l x y ga gb gc gu gl gx gy) (fun _ _ _ _ => True) 42 := by
    refine Reg.op_ok2 (fun af => { dst := some 121, op := Op.pick (Operand.tmp 114) (Operand.tmp 120) (Operand.const (Value.bool false)), type := 4, pos := "outright.go:60", after := af, guard := none }) #[{ on := 35, ground := Ground.data }, { on := 41, ground := Ground.data }] (by kernel_rfl) [35, 41] (by kernel_rfl) fun af v W hb hd => ?_
    have d35 : v 35 = (Value.bool true) := hd 35 (by decide)
    have d41 : v 41 = (Value.bool true) := hd 41 (by decide)
    have e114 := (Reg.gfr_eval (ops := (Reg.opsOf Try.f3 8)) (a0 := a0) (v := v) (L := [35, 41]) 114 35 (by kernel_rfl) (by rw [hsz]; omega)).trans d35
    have e120 := (Reg.gfr_eval (ops := (Reg.opsOf Try.f3 8)) (a0 := a0) (v := v) (L := [35, 41]) 120 41 (by kernel_rfl) (by rw [hsz]; omega)).trans d41
    refine ⟨Reg.wanted_none rfl, ?_⟩
    have eC : ∀ x, (Reg.gfr (Reg.opsOf Try.f3 8) a0 v [35, 41]).eval (.const x) = x := fun _ => rfl
    generalize Reg.gfr (Reg.opsOf Try.f3 8) a0 v [35, 41] = G at e114 e120 eC ⊢
    generalize hρ : G.eval = ρ at e114 e120 eC
    have hρ' : G.eval = ρ := hρ
    refine Reg.go_run (Value.bool true) W ?_ ?_
    · rw [hρ']; simp [execOp, go_sem, e114, e120, eC]
    · exact ⟨Below.refl _ _, rfl⟩
  have h43 : Reg.OpOK Try.prog (Reg.opsOf Try.f3 8) a0 w0 (lattice8R a b c u l x y ga gb gc gu gl gx gy) (fun _ _ _ _ => True) 43 := by
    refine Reg.op_ok2 (fun af => { dst := some 122, op := Op.move (Operand.tmp 121), type := 4, pos := "outright.go:60", after := af, guard := none }) #[{ on := 42, ground := Ground.data }, { on := 39, ground := Ground.chain }] (by kernel_rfl) [42, 39] (by kernel_rfl) fun af v W hb hd => ?_
    have d42 : v 42 = (Value.bool true) := hd 42 (by decide)
    have e121 := (Reg.gfr_eval (ops := (Reg.opsOf Try.f3 8)) (a0 := a0) (v := v) (L := [42, 39]) 121 42 (by kernel_rfl) (by rw [hsz]; omega)).trans d42
    refine ⟨Reg.wanted_none rfl, ?_⟩
    generalize Reg.gfr (Reg.opsOf Try.f3 8) a0 v [42, 39] = G at e121 ⊢
    generalize hρ : G.eval = ρ at e121
    have hρ' : G.eval = ρ := hρ
    refine Reg.go_run (Value.bool true) W ?_ ?_
    · rw [hρ']; simp [execOp, go_sem, e121]
    · exact ⟨Below.refl _ _, rfl⟩
  have h44 : Reg.OpOK Try.prog (Reg.opsOf Try.f3 8) a0 w0 (lattice8R a b c u l x y ga gb gc gu gl gx gy) (fun _ _ _ _ => True) 44 := by
    refine Reg.op_ok2 (fun af => { dst := some 123, op := Op.load 24 (Operand.tmp 3), type := 24, pos := "outright.go:60", after := af, guard := some (43, true) }) #[{ on := 43, ground := Ground.guard }] (by kernel_rfl) [43] (by kernel_rfl) fun af v W hb hd => ?_
    have d43 : v 43 = (Value.bool true) := hd 43 (by decide)
    have e3 := (Reg.gfr_eval0 (ops := (Reg.opsOf Try.f3 8)) (a0 := a0) (v := v) (L := [43]) 3 (by kernel_rfl)).trans i3
    have e122 := (Reg.gfr_eval (ops := (Reg.opsOf Try.f3 8)) (a0 := a0) (v := v) (L := [43]) 122 43 (by kernel_rfl) (by rw [hsz]; omega)).trans d43
    refine ⟨Reg.wanted_of rfl (by kernel_rfl) e122, ?_⟩
    generalize Reg.gfr (Reg.opsOf Try.f3 8) a0 v [43] = G at e3 ⊢
    generalize hρ : G.eval = ρ at e3
    have hρ' : G.eval = ρ := hρ
    exact fun K hK => wp_load_row 24 (.tmp 3) rfl ga (by rw [hρ']; exact e3) 24 (vC a) (0, 0) _ (M_ga W hb) Try.underlying24 rfl (vec_size ha) (hK _ _ ⟨Below.refl _ _, rfl⟩)
  have h45 : Reg.OpOK Try.prog (Reg.opsOf Try.f3 8) a0 w0 (lattice8R a b c u l x y ga gb gc gu gl gx gy) (fun _ _ _ _ => True) 45 := by
    refine Reg.op_ok2 (fun af => { dst := some 124, op := Op.load 24 (Operand.tmp 3), type := 24, pos := "outright.go:60", after := af, guard := some (43, true) }) #[{ on := 43, ground := Ground.guard }] (by kernel_rfl) [43] (by kernel_rfl) fun af v W hb hd => ?_
    have d43 : v 43 = (Value.bool true) := hd 43 (by decide)
    have e3 := (Reg.gfr_eval0 (ops := (Reg.opsOf Try.f3 8)) (a0 := a0) (v := v) (L := [43]) 3 (by kernel_rfl)).trans i3
    have e122 := (Reg.gfr_eval (ops := (Reg.opsOf Try.f3 8)) (a0 := a0) (v := v) (L := [43]) 122 43 (by kernel_rfl) (by rw [hsz]; omega)).trans d43
    refine ⟨Reg.wanted_of rfl (by kernel_rfl) e122, ?_⟩
    generalize Reg.gfr (Reg.opsOf Try.f3 8) a0 v [43] = G at e3 ⊢
    generalize hρ : G.eval = ρ at e3
    have hρ' : G.eval = ρ := hρ
    exact fun K hK => wp_load_row 24 (.tmp 3) rfl ga (by rw [hρ']; exact e3) 24 (vC a) (0, 0) _ (M_ga W hb) Try.underlying24 rfl (vec_size ha) (hK _ _ ⟨Below.refl _ _, rfl⟩)
  have h46 : Reg.OpOK Try.prog (Reg.opsOf Try.f3 8) a0 w0 (lattice8R a b c u l x y ga gb gc gu gl gx gy) (fun _ _ _ _ => True) 46 := by
    refine Reg.op_ok2 (fun af => { dst := some 125, op := Op.buildSlice 43 2 #[(0, Operand.tmp 123), (1, Operand.tmp 124)], type := 43, pos := "outright.go:60", after := af, guard := some (43, true) }) #[{ on := 44, ground := Ground.data }, { on := 45, ground := Ground.data }, { on := 43, ground := Ground.guard }] (by kernel_rfl) [44, 45, 43] (by kernel_rfl) fun af v W hb hd => ?_
    have d43 : v 43 = (Value.bool true) := hd 43 (by decide)
    have d44 : v 44 = (Value.agg (vC a)) := hd 44 (by decide)
    have d45 : v 45 = (Value.agg (vC a)) := hd 45 (by decide)
    have e123 := (Reg.gfr_eval (ops := (Reg.opsOf Try.f3 8)) (a0 := a0) (v := v) (L := [44, 45, 43]) 123 44 (by kernel_rfl) (by rw [hsz]; omega)).trans d44
    have e124 := (Reg.gfr_eval (ops := (Reg.opsOf Try.f3 8)) (a0 := a0) (v := v) (L := [44, 45, 43]) 124 45 (by kernel_rfl) (by rw [hsz]; omega)).trans d45
    have e122 := (Reg.gfr_eval (ops := (Reg.opsOf Try.f3 8)) (a0 := a0) (v := v) (L := [44, 45, 43]) 122 43 (by kernel_rfl) (by rw [hsz]; omega)).trans d43
    refine ⟨Reg.wanted_of rfl (by kernel_rfl) e122, ?_⟩
    generalize Reg.gfr (Reg.opsOf Try.f3 8) a0 v [44, 45, 43] = G at e123 e124 ⊢
    generalize hρ : G.eval = ρ at e123 e124
    have hρ' : G.eval = ρ := hρ
    exact Reg.go_build 43 24 2 _ rfl Try.underlying43 _ (by rw [hρ']; exact built_vecs [a, a] (by simp [ha]) (by simp) (by simp) _ (by simp [e123, e124])) ⟨(Below.refl _ W).alloc (Nat.le_refl _) _, ⟨_, rfl, heap_alloc_new _ _⟩⟩
  have h47 : Reg.OpOK Try.prog (Reg.opsOf Try.f3 8) a0 w0 (lattice8R a b c u l x y ga gb gc gu gl gx gy) (fun _ _ _ _ => True) 47 := by
    refine Reg.op_ok2 (fun af => { dst := some 126, op := Op.call { callee := Callee.value (Operand.func 12), args := #[Operand.tmp 125], argTypes := #[43] }, type := 24, pos := "outright.go:60", after := af, guard := some (43, true) }) #[{ on := 46, ground := Ground.data }, { on := 43, ground := Ground.chain }, { on := 43, ground := Ground.guard }] (by kernel_rfl) [46, 43, 43] (by kernel_rfl) fun af v W hb hd => ?_
    have d43 : v 43 = (Value.bool true) := hd 43 (by decide)
    have d46 : (Reg.IsRow 24 (vecs [a, a]).toArray 2) (v 46) W := hd 46 (by decide)
    have e125 := Reg.gfr_eval (ops := (Reg.opsOf Try.f3 8)) (a0 := a0) (v := v) (L := [46, 43, 43]) 125 46 (by kernel_rfl) (by rw [hsz]; omega)
    have e122 := (Reg.gfr_eval (ops := (Reg.opsOf Try.f3 8)) (a0 := a0) (v := v) (L := [46, 43, 43]) 122 43 (by kernel_rfl) (by rw [hsz]; omega)).trans d43
    obtain ⟨gr, hg1, hg2⟩ := d46
    rw [hg1] at e125
    refine ⟨Reg.wanted_of rfl (by kernel_rfl) e122, ?_⟩
    have eF : ∀ f, (Reg.gfr (Reg.opsOf Try.f3 8) a0 v [46, 43, 43]).eval (.func f) = .func (.func f) #[] #[] := fun _ => rfl
    generalize Reg.gfr (Reg.opsOf Try.f3 8) a0 v [46, 43, 43] = G at e125 eF ⊢
    generalize hρ : G.eval = ρ at e125 eF
    have hρ' : G.eval = ρ := hρ
    refine Reg.go_call 12 #[(Value.slice (some ⟨gr, 0, none⟩) 2 2)] (by rw [hρ']; simp [execOp, go_sem, e125, eF]) ((meet2 a a ha ha W gr hg2).mono fun e w' he => ?_)
    obtain ⟨rfl, hbb⟩ := he
    exact ⟨_, rfl, hbb, (show _ = _ from by rw [f6])⟩
  have h48 : Reg.OpOK Try.prog (Reg.opsOf Try.f3 8) a0 w0 (lattice8R a b c u l x y ga gb gc gu gl gx gy) (fun _ _ _ _ => True) 48 := by
    refine Reg.op_ok2 (fun af => { dst := some 127, op := Op.load 24 (Operand.tmp 3), type := 24, pos := "outright.go:60", after := af, guard := some (43, true) }) #[{ on := 43, ground := Ground.guard }] (by kernel_rfl) [43] (by kernel_rfl) fun af v W hb hd => ?_
    have d43 : v 43 = (Value.bool true) := hd 43 (by decide)
    have e3 := (Reg.gfr_eval0 (ops := (Reg.opsOf Try.f3 8)) (a0 := a0) (v := v) (L := [43]) 3 (by kernel_rfl)).trans i3
    have e122 := (Reg.gfr_eval (ops := (Reg.opsOf Try.f3 8)) (a0 := a0) (v := v) (L := [43]) 122 43 (by kernel_rfl) (by rw [hsz]; omega)).trans d43
    refine ⟨Reg.wanted_of rfl (by kernel_rfl) e122, ?_⟩
    generalize Reg.gfr (Reg.opsOf Try.f3 8) a0 v [43] = G at e3 ⊢
    generalize hρ : G.eval = ρ at e3
    have hρ' : G.eval = ρ := hρ
    exact fun K hK => wp_load_row 24 (.tmp 3) rfl ga (by rw [hρ']; exact e3) 24 (vC a) (0, 0) _ (M_ga W hb) Try.underlying24 rfl (vec_size ha) (hK _ _ ⟨Below.refl _ _, rfl⟩)
  have h49 : Reg.OpOK Try.prog (Reg.opsOf Try.f3 8) a0 w0 (lattice8R a b c u l x y ga gb gc gu gl gx gy) (fun _ _ _ _ => True) 49 := by
    refine Reg.op_ok2 (fun af => { dst := some 128, op := Op.binOp BinOp.eql 24 (Operand.tmp 126) (Operand.tmp 127) 24, type := 4, pos := "outright.go:60", after := af, guard := some (43, true) }) #[{ on := 47, ground := Ground.data }, { on := 48, ground := Ground.data }, { on := 43, ground := Ground.guard }] (by kernel_rfl) [47, 48, 43] (by kernel_rfl) fun af v W hb hd => ?_
    have d43 : v 43 = (Value.bool true) := hd 43 (by decide)
    have d47 : v 47 = (Value.agg (vC a)) := hd 47 (by decide)
    have d48 : v 48 = (Value.agg (vC a)) := hd 48 (by decide)
    have e126 := (Reg.gfr_eval (ops := (Reg.opsOf Try.f3 8)) (a0 := a0) (v := v) (L := [47, 48, 43]) 126 47 (by kernel_rfl) (by rw [hsz]; omega)).trans d47
    have e127 := (Reg.gfr_eval (ops := (Reg.opsOf Try.f3 8)) (a0 := a0) (v := v) (L := [47, 48, 43]) 127 48 (by kernel_rfl) (by rw [hsz]; omega)).trans d48
    have e122 := (Reg.gfr_eval (ops := (Reg.opsOf Try.f3 8)) (a0 := a0) (v := v) (L := [47, 48, 43]) 122 43 (by kernel_rfl) (by rw [hsz]; omega)).trans d43
    refine ⟨Reg.wanted_of rfl (by kernel_rfl) e122, ?_⟩
    generalize Reg.gfr (Reg.opsOf Try.f3 8) a0 v [47, 48, 43] = G at e126 e127 ⊢
    generalize hρ : G.eval = ρ at e126 e127
    have hρ' : G.eval = ρ := hρ
    refine Reg.go_run (Value.bool true) W ?_ ?_
    · rw [hρ']; simp [execOp, go_sem, e126, e127, run_eq_vec W a a ha ha]
    · exact ⟨Below.refl _ _, rfl⟩
  have h50 : Reg.OpOK Try.prog (Reg.opsOf Try.f3 8) a0 w0 (lattice8R a b c u l x y ga gb gc gu gl gx gy) (fun _ _ _ _ => True) 50 := by
    refine Reg.op_ok2 (fun af => { dst := some 129, op := Op.pick (Operand.tmp 122) (Operand.tmp 128) (Operand.const (Value.bool false)), type := 4, pos := "outright.go:60", after := af, guard := none }) #[{ on := 43, ground := Ground.data }, { on := 49, ground := Ground.data }] (by kernel_rfl) [43, 49] (by kernel_rfl) fun af v W hb hd => ?_
    have d43 : v 43 = (Value.bool true) := hd 43 (by decide)
    have d49 : v 49 = (Value.bool true) := hd 49 (by decide)
    have e122 := (Reg.gfr_eval (ops := (Reg.opsOf Try.f3 8)) (a0 := a0) (v := v) (L := [43, 49]) 122 43 (by kernel_rfl) (by rw [hsz]; omega)).trans d43
    have e128 := (Reg.gfr_eval (ops := (Reg.opsOf Try.f3 8)) (a0 := a0) (v := v) (L := [43, 49]) 128 49 (by kernel_rfl) (by rw [hsz]; omega)).trans d49
    refine ⟨Reg.wanted_none rfl, ?_⟩
    have eC : ∀ x, (Reg.gfr (Reg.opsOf Try.f3 8) a0 v [43, 49]).eval (.const x) = x := fun _ => rfl
    generalize Reg.gfr (Reg.opsOf Try.f3 8) a0 v [43, 49] = G at e122 e128 eC ⊢
    generalize hρ : G.eval = ρ at e122 e128 eC
    have hρ' : G.eval = ρ := hρ
    refine Reg.go_run (Value.bool true) W ?_ ?_
    · rw [hρ']; simp [execOp, go_sem, e122, e128, eC]
    · exact ⟨Below.refl _ _, rfl⟩
  have h51 : Reg.OpOK Try.prog (Reg.opsOf Try.f3 8) a0 w0 (lattice8R a b c u l x y ga gb gc gu gl gx gy) (fun _ _ _ _ => True) 51 := by
    refine Reg.op_ok2 (fun af => { dst := some 130, op := Op.move (Operand.tmp 129), type := 4, pos := "outright.go:60", after := af, guard := none }) #[{ on := 50, ground := Ground.data }, { on := 47, ground := Ground.chain }] (by kernel_rfl) [50, 47] (by kernel_rfl) fun af v W hb hd => ?_
    have d50 : v 50 = (Value.bool true) := hd 50 (by decide)
    have e129 := (Reg.gfr_eval (ops := (Reg.opsOf Try.f3 8)) (a0 := a0) (v := v) (L := [50, 47]) 129 50 (by kernel_rfl) (by rw [hsz]; omega)).trans d50
    refine ⟨Reg.wanted_none rfl, ?_⟩
    generalize Reg.gfr (Reg.opsOf Try.f3 8) a0 v [50, 47] = G at e129 ⊢
    generalize hρ : G.eval = ρ at e129
    have hρ' : G.eval = ρ := hρ
    refine Reg.go_run (Value.bool true) W ?_ ?_
    · rw [hρ']; simp [execOp, go_sem, e129]
    · exact ⟨Below.refl _ _, rfl⟩
  have h52 : Reg.OpOK Try.prog (Reg.opsOf Try.f3 8) a0 w0 (lattice8R a b c u l x y ga gb gc gu gl gx gy) (fun _ _ _ _ => True) 52 := by
    refine Reg.op_ok2 (fun af => { dst := some 131, op := Op.load 24 (Operand.tmp 3), type := 24, pos := "outright.go:60", after := af, guard := some (51, true) }) #[{ on := 51, ground := Ground.guard }] (by kernel_rfl) [51] (by kernel_rfl) fun af v W hb hd => ?_
    have d51 : v 51 = (Value.bool true) := hd 51 (by decide)
    have e3 := (Reg.gfr_eval0 (ops := (Reg.opsOf Try.f3 8)) (a0 := a0) (v := v) (L := [51]) 3 (by kernel_rfl)).trans i3
    have e130 := (Reg.gfr_eval (ops := (Reg.opsOf Try.f3 8)) (a0 := a0) (v := v) (L := [51]) 130 51 (by kernel_rfl) (by rw [hsz]; omega)).trans d51
    refine ⟨Reg.wanted_of rfl (by kernel_rfl) e130, ?_⟩
    generalize Reg.gfr (Reg.opsOf Try.f3 8) a0 v [51] = G at e3 ⊢
    generalize hρ : G.eval = ρ at e3
    have hρ' : G.eval = ρ := hρ
    exact fun K hK => wp_load_row 24 (.tmp 3) rfl ga (by rw [hρ']; exact e3) 24 (vC a) (0, 0) _ (M_ga W hb) Try.underlying24 rfl (vec_size ha) (hK _ _ ⟨Below.refl _ _, rfl⟩)
  have h53 : Reg.OpOK Try.prog (Reg.opsOf Try.f3 8) a0 w0 (lattice8R a b c u l x y ga gb gc gu gl gx gy) (fun _ _ _ _ => True) 53 := by
    refine Reg.op_ok2 (fun af => { dst := some 132, op := Op.load 24 (Operand.tmp 3), type := 24, pos := "outright.go:60", after := af, guard := some (51, true) }) #[{ on := 51, ground := Ground.guard }] (by kernel_rfl) [51] (by kernel_rfl) fun af v W hb hd => ?_
    have d51 : v 51 = (Value.bool true) := hd 51 (by decide)
    have e3 := (Reg.gfr_eval0 (ops := (Reg.opsOf Try.f3 8)) (a0 := a0) (v := v) (L := [51]) 3 (by kernel_rfl)).trans i3
    have e130 := (Reg.gfr_eval (ops := (Reg.opsOf Try.f3 8)) (a0 := a0) (v := v) (L := [51]) 130 51 (by kernel_rfl) (by rw [hsz]; omega)).trans d51
    refine ⟨Reg.wanted_of rfl (by kernel_rfl) e130, ?_⟩
    generalize Reg.gfr (Reg.opsOf Try.f3 8) a0 v [51] = G at e3 ⊢
    generalize hρ : G.eval = ρ at e3
    have hρ' : G.eval = ρ := hρ
    exact fun K hK => wp_load_row 24 (.tmp 3) rfl ga (by rw [hρ']; exact e3) 24 (vC a) (0, 0) _ (M_ga W hb) Try.underlying24 rfl (vec_size ha) (hK _ _ ⟨Below.refl _ _, rfl⟩)
  have h54 : Reg.OpOK Try.prog (Reg.opsOf Try.f3 8) a0 w0 (lattice8R a b c u l x y ga gb gc gu gl gx gy) (fun _ _ _ _ => True) 54 := by
    refine Reg.op_ok2 (fun af => { dst := some 133, op := Op.load 24 (Operand.tmp 4), type := 24, pos := "outright.go:60", after := af, guard := some (51, true) }) #[{ on := 51, ground := Ground.guard }] (by kernel_rfl) [51] (by kernel_rfl) fun af v W hb hd => ?_
    have d51 : v 51 = (Value.bool true) := hd 51 (by decide)
    have e4 := (Reg.gfr_eval0 (ops := (Reg.opsOf Try.f3 8)) (a0 := a0) (v := v) (L := [51]) 4 (by kernel_rfl)).trans i4
    have e130 := (Reg.gfr_eval (ops := (Reg.opsOf Try.f3 8)) (a0 := a0) (v := v) (L := [51]) 130 51 (by kernel_rfl) (by rw [hsz]; omega)).trans d51
    refine ⟨Reg.wanted_of rfl (by kernel_rfl) e130, ?_⟩
    generalize Reg.gfr (Reg.opsOf Try.f3 8) a0 v [51] = G at e4 ⊢
    generalize hρ : G.eval = ρ at e4
    have hρ' : G.eval = ρ := hρ
    exact fun K hK => wp_load_row 24 (.tmp 4) rfl gb (by rw [hρ']; exact e4) 24 (vC b) (0, 0) _ (M_gb W hb) Try.underlying24 rfl (vec_size hb') (hK _ _ ⟨Below.refl _ _, rfl⟩)
  have h55 : Reg.OpOK Try.prog (Reg.opsOf Try.f3 8) a0 w0 (lattice8R a b c u l x y ga gb gc gu gl gx gy) (fun _ _ _ _ => True) 55 := by
    refine Reg.op_ok2 (fun af => { dst := some 134, op := Op.buildSlice 43 2 #[(0, Operand.tmp 132), (1, Operand.tmp 133)], type := 43, pos := "outright.go:60", after := af, guard := some (51, true) }) #[{ on := 53, ground := Ground.data }, { on := 54, ground := Ground.data }, { on := 51, ground := Ground.guard }] (by kernel_rfl) [53, 54, 51] (by kernel_rfl) fun af v W hb hd => ?_
    have d51 : v 51 = (Value.bool true) := hd 51 (by decide)
    have d53 : v 53 = (Value.agg (vC a)) := hd 53 (by decide)
    have d54 : v 54 = (Value.agg (vC b)) := hd 54 (by decide)
    have e132 := (Reg.gfr_eval (ops := (Reg.opsOf Try.f3 8)) (a0 := a0) (v := v) (L := [53, 54, 51]) 132 53 (by kernel_rfl) (by rw [hsz]; omega)).trans d53
    have e133 := (Reg.gfr_eval (ops := (Reg.opsOf Try.f3 8)) (a0 := a0) (v := v) (L := [53, 54, 51]) 133 54 (by kernel_rfl) (by rw [hsz]; omega)).trans d54
    have e130 := (Reg.gfr_eval (ops := (Reg.opsOf Try.f3 8)) (a0 := a0) (v := v) (L := [53, 54, 51]) 130 51 (by kernel_rfl) (by rw [hsz]; omega)).trans d51
    refine ⟨Reg.wanted_of rfl (by kernel_rfl) e130, ?_⟩
    generalize Reg.gfr (Reg.opsOf Try.f3 8) a0 v [53, 54, 51] = G at e132 e133 ⊢
    generalize hρ : G.eval = ρ at e132 e133
    have hρ' : G.eval = ρ := hρ
    exact Reg.go_build 43 24 2 _ rfl Try.underlying43 _ (by rw [hρ']; exact built_vecs [a, b] (by simp [ha, hb']) (by simp) (by simp) _ (by simp [e132, e133])) ⟨(Below.refl _ W).alloc (Nat.le_refl _) _, ⟨_, rfl, heap_alloc_new _ _⟩⟩
  have h56 : Reg.OpOK Try.prog (Reg.opsOf Try.f3 8) a0 w0 (lattice8R a b c u l x y ga gb gc gu gl gx gy) (fun _ _ _ _ => True) 56 := by
    refine Reg.op_ok2 (fun af => { dst := some 135, op := Op.call { callee := Callee.value (Operand.func 12), args := #[Operand.tmp 134], argTypes := #[43] }, type := 24, pos := "outright.go:60", after := af, guard := some (51, true) }) #[{ on := 55, ground := Ground.data }, { on := 51, ground := Ground.chain }, { on := 51, ground := Ground.guard }] (by kernel_rfl) [55, 51, 51] (by kernel_rfl) fun af v W hb hd => ?_
    have d51 : v 51 = (Value.bool true) := hd 51 (by decide)
    have d55 : (Reg.IsRow 24 (vecs [a, b]).toArray 2) (v 55) W := hd 55 (by decide)
    have e134 := Reg.gfr_eval (ops := (Reg.opsOf Try.f3 8)) (a0 := a0) (v := v) (L := [55, 51, 51]) 134 55 (by kernel_rfl) (by rw [hsz]; omega)
    have e130 := (Reg.gfr_eval (ops := (Reg.opsOf Try.f3 8)) (a0 := a0) (v := v) (L := [55, 51, 51]) 130 51 (by kernel_rfl) (by rw [hsz]; omega)).trans d51
    obtain ⟨gr, hg1, hg2⟩ := d55
    rw [hg1] at e134
    refine ⟨Reg.wanted_of rfl (by kernel_rfl) e130, ?_⟩
    have eF : ∀ f, (Reg.gfr (Reg.opsOf Try.f3 8) a0 v [55, 51, 51]).eval (.func f) = .func (.func f) #[] #[] := fun _ => rfl
    generalize Reg.gfr (Reg.opsOf Try.f3 8) a0 v [55, 51, 51] = G at e134 eF ⊢
    generalize hρ : G.eval = ρ at e134 eF
    have hρ' : G.eval = ρ := hρ
    refine Reg.go_call 12 #[(Value.slice (some ⟨gr, 0, none⟩) 2 2)] (by rw [hρ']; simp [execOp, go_sem, e134, eF]) ((meet2 a b ha hb' W gr hg2).mono fun e w' he => ?_)
    obtain ⟨rfl, hbb⟩ := he
    exact ⟨_, rfl, hbb, (show _ = _ from by rw [f7])⟩
  have h57 : Reg.OpOK Try.prog (Reg.opsOf Try.f3 8) a0 w0 (lattice8R a b c u l x y ga gb gc gu gl gx gy) (fun _ _ _ _ => True) 57 := by
    refine Reg.op_ok2 (fun af => { dst := some 136, op := Op.buildSlice 43 2 #[(0, Operand.tmp 131), (1, Operand.tmp 135)], type := 43, pos := "outright.go:60", after := af, guard := some (51, true) }) #[{ on := 52, ground := Ground.data }, { on := 56, ground := Ground.data }, { on := 51, ground := Ground.guard }] (by kernel_rfl) [52, 56, 51] (by kernel_rfl) fun af v W hb hd => ?_
    have d51 : v 51 = (Value.bool true) := hd 51 (by decide)
    have d52 : v 52 = (Value.agg (vC a)) := hd 52 (by decide)
    have d56 : v 56 = (Value.agg (vC l)) := hd 56 (by decide)
    have e131 := (Reg.gfr_eval (ops := (Reg.opsOf Try.f3 8)) (a0 := a0) (v := v) (L := [52, 56, 51]) 131 52 (by kernel_rfl) (by rw [hsz]; omega)).trans d52
    have e135 := (Reg.gfr_eval (ops := (Reg.opsOf Try.f3 8)) (a0 := a0) (v := v) (L := [52, 56, 51]) 135 56 (by kernel_rfl) (by rw [hsz]; omega)).trans d56
    have e130 := (Reg.gfr_eval (ops := (Reg.opsOf Try.f3 8)) (a0 := a0) (v := v) (L := [52, 56, 51]) 130 51 (by kernel_rfl) (by rw [hsz]; omega)).trans d51
    refine ⟨Reg.wanted_of rfl (by kernel_rfl) e130, ?_⟩
    generalize Reg.gfr (Reg.opsOf Try.f3 8) a0 v [52, 56, 51] = G at e131 e135 ⊢
    generalize hρ : G.eval = ρ at e131 e135
    have hρ' : G.eval = ρ := hρ
    exact Reg.go_build 43 24 2 _ rfl Try.underlying43 _ (by rw [hρ']; exact built_vecs [a, l] (by simp [ha, hl]) (by simp) (by simp) _ (by simp [e131, e135])) ⟨(Below.refl _ W).alloc (Nat.le_refl _) _, ⟨_, rfl, heap_alloc_new _ _⟩⟩
  have h58 : Reg.OpOK Try.prog (Reg.opsOf Try.f3 8) a0 w0 (lattice8R a b c u l x y ga gb gc gu gl gx gy) (fun _ _ _ _ => True) 58 := by
    refine Reg.op_ok2 (fun af => { dst := some 137, op := Op.call { callee := Callee.value (Operand.func 11), args := #[Operand.tmp 136], argTypes := #[43] }, type := 24, pos := "outright.go:60", after := af, guard := some (51, true) }) #[{ on := 57, ground := Ground.data }, { on := 56, ground := Ground.chain }, { on := 51, ground := Ground.guard }] (by kernel_rfl) [57, 56, 51] (by kernel_rfl) fun af v W hb hd => ?_
    have d51 : v 51 = (Value.bool true) := hd 51 (by decide)
    have d57 : (Reg.IsRow 24 (vecs [a, l]).toArray 2) (v 57) W := hd 57 (by decide)
    have e136 := Reg.gfr_eval (ops := (Reg.opsOf Try.f3 8)) (a0 := a0) (v := v) (L := [57, 56, 51]) 136 57 (by kernel_rfl) (by rw [hsz]; omega)
    have e130 := (Reg.gfr_eval (ops := (Reg.opsOf Try.f3 8)) (a0 := a0) (v := v) (L := [57, 56, 51]) 130 51 (by kernel_rfl) (by rw [hsz]; omega)).trans d51
    obtain ⟨gr, hg1, hg2⟩ := d57
    rw [hg1] at e136
    refine ⟨Reg.wanted_of rfl (by kernel_rfl) e130, ?_⟩
    have eF : ∀ f, (Reg.gfr (Reg.opsOf Try.f3 8) a0 v [57, 56, 51]).eval (.func f) = .func (.func f) #[] #[] := fun _ => rfl
    generalize Reg.gfr (Reg.opsOf Try.f3 8) a0 v [57, 56, 51] = G at e136 eF ⊢
    generalize hρ : G.eval = ρ at e136 eF
    have hρ' : G.eval = ρ := hρ
    refine Reg.go_call 11 #[(Value.slice (some ⟨gr, 0, none⟩) 2 2)] (by rw [hρ']; simp [execOp, go_sem, e136, eF]) ((merge2 a l ha hl W gr hg2).mono fun e w' he => ?_)
    obtain ⟨rfl, hbb⟩ := he
    exact ⟨_, rfl, hbb, (show _ = _ from by rw [f8])⟩
  have h59 : Reg.OpOK Try.prog (Reg.opsOf Try.f3 8) a0 w0 (lattice8R a b c u l x y ga gb gc gu gl gx gy) (fun _ _ _ _ => True) 59 := by
    refine Reg.op_ok2 (fun af => { dst := some 138, op := Op.load 24 (Operand.tmp 3), type := 24, pos := "outright.go:60", after := af, guard := some (51, true) }) #[{ on := 51, ground := Ground.guard }] (by kernel_rfl) [51] (by kernel_rfl) fun af v W hb hd => ?_
    have d51 : v 51 = (Value.bool true) := hd 51 (by decide)
    have e3 := (Reg.gfr_eval0 (ops := (Reg.opsOf Try.f3 8)) (a0 := a0) (v := v) (L := [51]) 3 (by kernel_rfl)).trans i3
    have e130 := (Reg.gfr_eval (ops := (Reg.opsOf Try.f3 8)) (a0 := a0) (v := v) (L := [51]) 130 51 (by kernel_rfl) (by rw [hsz]; omega)).trans d51
    refine ⟨Reg.wanted_of rfl (by kernel_rfl) e130, ?_⟩
    generalize Reg.gfr (Reg.opsOf Try.f3 8) a0 v [51] = G at e3 ⊢
    generalize hρ : G.eval = ρ at e3
    have hρ' : G.eval = ρ := hρ
    exact fun K hK => wp_load_row 24 (.tmp 3) rfl ga (by rw [hρ']; exact e3) 24 (vC a) (0, 0) _ (M_ga W hb) Try.underlying24 rfl (vec_size ha) (hK _ _ ⟨Below.refl _ _, rfl⟩)
  have h60 : Reg.OpOK Try.prog (Reg.opsOf Try.f3 8) a0 w0 (lattice8R a b c u l x y ga gb gc gu gl gx gy) (fun _ _ _ _ => True) 60 := by
    refine Reg.op_ok2 (fun af => { dst := some 139, op := Op.binOp BinOp.eql 24 (Operand.tmp 137) (Operand.tmp 138) 24, type := 4, pos := "outright.go:60", after := af, guard := some (51, true) }) #[{ on := 58, ground := Ground.data }, { on := 59, ground := Ground.data }, { on := 51, ground := Ground.guard }] (by kernel_rfl) [58, 59, 51] (by kernel_rfl) fun af v W hb hd => ?_
    have d51 : v 51 = (Value.bool true) := hd 51 (by decide)
    have d58 : v 58 = (Value.agg (vC a)) := hd 58 (by decide)
    have d59 : v 59 = (Value.agg (vC a)) := hd 59 (by decide)
    have e137 := (Reg.gfr_eval (ops := (Reg.opsOf Try.f3 8)) (a0 := a0) (v := v) (L := [58, 59, 51]) 137 58 (by kernel_rfl) (by rw [hsz]; omega)).trans d58
    have e138 := (Reg.gfr_eval (ops := (Reg.opsOf Try.f3 8)) (a0 := a0) (v := v) (L := [58, 59, 51]) 138 59 (by kernel_rfl) (by rw [hsz]; omega)).trans d59
    have e130 := (Reg.gfr_eval (ops := (Reg.opsOf Try.f3 8)) (a0 := a0) (v := v) (L := [58, 59, 51]) 130 51 (by kernel_rfl) (by rw [hsz]; omega)).trans d51
    refine ⟨Reg.wanted_of rfl (by kernel_rfl) e130, ?_⟩
    generalize Reg.gfr (Reg.opsOf Try.f3 8) a0 v [58, 59, 51] = G at e137 e138 ⊢
    generalize hρ : G.eval = ρ at e137 e138
    have hρ' : G.eval = ρ := hρ
    refine Reg.go_run (Value.bool true) W ?_ ?_
    · rw [hρ']; simp [execOp, go_sem, e137, e138, run_eq_vec W a a ha ha]
    · exact ⟨Below.refl _ _, rfl⟩
  have h61 : Reg.OpOK Try.prog (Reg.opsOf Try.f3 8) a0 w0 (lattice8R a b c u l x y ga gb gc gu gl gx gy) (fun _ _ _ _ => True) 61 := by
    refine Reg.op_ok2 (fun af => { dst := some 140, op := Op.pick (Operand.tmp 130) (Operand.tmp 139) (Operand.const (Value.bool false)), type := 4, pos := "outright.go:60", after := af, guard := none }) #[{ on := 51, ground := Ground.data }, { on := 60, ground := Ground.data }] (by kernel_rfl) [51, 60] (by kernel_rfl) fun af v W hb hd => ?_
    have d51 : v 51 = (Value.bool true) := hd 51 (by decide)
    have d60 : v 60 = (Value.bool true) := hd 60 (by decide)
    have e130 := (Reg.gfr_eval (ops := (Reg.opsOf Try.f3 8)) (a0 := a0) (v := v) (L := [51, 60]) 130 51 (by kernel_rfl) (by rw [hsz]; omega)).trans d51
    have e139 := (Reg.gfr_eval (ops := (Reg.opsOf Try.f3 8)) (a0 := a0) (v := v) (L := [51, 60]) 139 60 (by kernel_rfl) (by rw [hsz]; omega)).trans d60
    refine ⟨Reg.wanted_none rfl, ?_⟩
    have eC : ∀ x, (Reg.gfr (Reg.opsOf Try.f3 8) a0 v [51, 60]).eval (.const x) = x := fun _ => rfl
    generalize Reg.gfr (Reg.opsOf Try.f3 8) a0 v [51, 60] = G at e130 e139 eC ⊢
    generalize hρ : G.eval = ρ at e130 e139 eC
    have hρ' : G.eval = ρ := hρ
    refine Reg.go_run (Value.bool true) W ?_ ?_
    · rw [hρ']; simp [execOp, go_sem, e130, e139, eC]
    · exact ⟨Below.refl _ _, rfl⟩
  have h62 : Reg.OpOK Try.prog (Reg.opsOf Try.f3 8) a0 w0 (lattice8R a b c u l x y ga gb gc gu gl gx gy) (fun _ _ _ _ => True) 62 := by
    refine Reg.op_ok2 (fun af => { dst := some 6, op := Op.assign (Operand.tmp 140), type := 4, pos := "outright.go:60", after := af, guard := none }) #[{ on := 61, ground := Ground.data }, { on := 58, ground := Ground.chain }, { on := 0, ground := Ground.phase }, { on := 1, ground := Ground.phase }, { on := 2, ground := Ground.phase }, { on := 3, ground := Ground.phase }, { on := 4, ground := Ground.phase }, { on := 5, ground := Ground.phase }, { on := 6, ground := Ground.phase }, { on := 7, ground := Ground.phase }, { on := 8, ground := Ground.phase }, { on := 9, ground := Ground.phase }, { on := 10, ground := Ground.phase }, { on := 11, ground := Ground.phase }, { on := 12, ground := Ground.phase }, { on := 13, ground := Ground.phase }, { on := 14, ground := Ground.phase }, { on := 15, ground := Ground.phase }, { on := 16, ground := Ground.phase }, { on := 17, ground := Ground.phase }, { on := 18, ground := Ground.phase }, { on := 19, ground := Ground.phase }, { on := 20, ground := Ground.phase }, { on := 21, ground := Ground.phase }, { on := 22, ground := Ground.phase }, { on := 23, ground := Ground.phase }, { on := 24, ground := Ground.phase }, { on := 25, ground := Ground.phase }, { on := 26, ground := Ground.phase }, { on := 27, ground := Ground.phase }, { on := 28, ground := Ground.phase }, { on := 29, ground := Ground.phase }, { on := 30, ground := Ground.phase }, { on := 31, ground := Ground.phase }, { on := 32, ground := Ground.phase }, { on := 33, ground := Ground.phase }, { on := 34, ground := Ground.phase }, { on := 35, ground := Ground.phase }, { on := 36, ground := Ground.phase }, { on := 37, ground := Ground.phase }, { on := 38, ground := Ground.phase }, { on := 39, ground := Ground.phase }, { on := 40, ground := Ground.phase }, { on := 41, ground := Ground.phase }, { on := 42, ground := Ground.phase }, { on := 43, ground := Ground.phase }, { on := 44, ground := Ground.phase }, { on := 45, ground := Ground.phase }, { on := 46, ground := Ground.phase }, { on := 47, ground := Ground.phase }, { on := 48, ground := Ground.phase }, { on := 49, ground := Ground.phase }, { on := 50, ground := Ground.phase }, { on := 51, ground := Ground.phase }, { on := 52, ground := Ground.phase }, { on := 53, ground := Ground.phase }, { on := 54, ground := Ground.phase }, { on := 55, ground := Ground.phase }, { on := 56, ground := Ground.phase }, { on := 57, ground := Ground.phase }, { on := 58, ground := Ground.phase }, { on := 59, ground := Ground.phase }, { on := 60, ground := Ground.phase }, { on := 61, ground := Ground.phase }] (by kernel_rfl) [61, 58, 0, 1, 2, 3, 4, 5, 6, 7, 8, 9, 10, 11, 12, 13, 14, 15, 16, 17, 18, 19, 20, 21, 22, 23, 24, 25, 26, 27, 28, 29, 30, 31, 32, 33, 34, 35, 36, 37, 38, 39, 40, 41, 42, 43, 44, 45, 46, 47, 48, 49, 50, 51, 52, 53, 54, 55, 56, 57, 58, 59, 60, 61] (by kernel_rfl) fun af v W hb hd => ?_
    have d61 : v 61 = (Value.bool true) := hd 61 (by decide)
    have e140 := (Reg.gfr_eval (ops := (Reg.opsOf Try.f3 8)) (a0 := a0) (v := v) (L := [61, 58, 0, 1, 2, 3, 4, 5, 6, 7, 8, 9, 10, 11, 12, 13, 14, 15, 16, 17, 18, 19, 20, 21, 22, 23, 24, 25, 26, 27, 28, 29, 30, 31, 32, 33, 34, 35, 36, 37, 38, 39, 40, 41, 42, 43, 44, 45, 46, 47, 48, 49, 50, 51, 52, 53, 54, 55, 56, 57, 58, 59, 60, 61]) 140 61 (by kernel_rfl) (by rw [hsz]; omega)).trans d61
    refine ⟨Reg.wanted_none rfl, ?_⟩
    generalize Reg.gfr (Reg.opsOf Try.f3 8) a0 v [61, 58, 0, 1, 2, 3, 4, 5, 6, 7, 8, 9, 10, 11, 12, 13, 14, 15, 16, 17, 18, 19, 20, 21, 22, 23, 24, 25, 26, 27, 28, 29, 30, 31, 32, 33, 34, 35, 36, 37, 38, 39, 40, 41, 42, 43, 44, 45, 46, 47, 48, 49, 50, 51, 52, 53, 54, 55, 56, 57, 58, 59, 60, 61] = G at e140 ⊢
    generalize hρ : G.eval = ρ at e140
    have hρ' : G.eval = ρ := hρ
    refine Reg.go_run (Value.bool true) W ?_ ?_
    · rw [hρ']; simp [execOp, go_sem, e140]
    · exact ⟨Below.refl _ _, rfl⟩
  refine Reg.region_all (by kernel_rfl) (lattice8R a b c u l x y ga gb gc gu gl gx gy) (by rw [hn, hsz]; kernel_rfl) (lattice8_stable a b c u l x y ga gb gc gu gl gx gy) (fun i hi => ?_) (fun v w hb hR => ?_)
  · rw [hn] at hi
    match i, List.mem_range.1 hi with
    | 0, _ => exact h0
    | 1, _ => exact h1
    | 2, _ => exact h2
    | 3, _ => exact h3
    | 4, _ => exact h4
    | 5, _ => exact h5
    | 6, _ => exact h6
    | 7, _ => exact h7
    | 8, _ => exact h8
    | 9, _ => exact h9
    | 10, _ => exact h10
    | 11, _ => exact h11
    | 12, _ => exact h12
    | 13, _ => exact h13
    | 14, _ => exact h14
    | 15, _ => exact h15
    | 16, _ => exact h16
    | 17, _ => exact h17
    | 18, _ => exact h18
    | 19, _ => exact h19
    | 20, _ => exact h20
    | 21, _ => exact h21
    | 22, _ => exact h22
    | 23, _ => exact h23
    | 24, _ => exact h24
    | 25, _ => exact h25
    | 26, _ => exact h26
    | 27, _ => exact h27
    | 28, _ => exact h28
    | 29, _ => exact h29
    | 30, _ => exact h30
    | 31, _ => exact h31
    | 32, _ => exact h32
    | 33, _ => exact h33
    | 34, _ => exact h34
    | 35, _ => exact h35
    | 36, _ => exact h36
    | 37, _ => exact h37
    | 38, _ => exact h38
    | 39, _ => exact h39
    | 40, _ => exact h40
    | 41, _ => exact h41
    | 42, _ => exact h42
    | 43, _ => exact h43
    | 44, _ => exact h44
    | 45, _ => exact h45
    | 46, _ => exact h46
    | 47, _ => exact h47
    | 48, _ => exact h48
    | 49, _ => exact h49
    | 50, _ => exact h50
    | 51, _ => exact h51
    | 52, _ => exact h52
    | 53, _ => exact h53
    | 54, _ => exact h54
    | 55, _ => exact h55
    | 56, _ => exact h56
    | 57, _ => exact h57
    | 58, _ => exact h58
    | 59, _ => exact h59
    | 60, _ => exact h60
    | 61, _ => exact h61
    | 62, _ => exact h62
    | (_ + 63), h => omega
  · rw [hn] at hR ⊢
    have v0 : v 0 = (Value.bool true) := hR 0 (by decide)
    have v1 : v 1 = (Value.bool true) := hR 1 (by decide)
    have v2 : v 2 = (Value.agg (vC b)) := hR 2 (by decide)
    have v3 : v 3 = (Value.agg (vC a)) := hR 3 (by decide)
    have v5 : v 5 = (Value.agg (vC u)) := hR 5 (by decide)
    have v6 : v 6 = (Value.agg (vC u)) := hR 6 (by decide)
    have v7 : v 7 = (Value.bool true) := hR 7 (by decide)
    have v8 : v 8 = (Value.bool true) := hR 8 (by decide)
    have v9 : v 9 = (Value.bool true) := hR 9 (by decide)
    have v10 : v 10 = (Value.agg (vC b)) := hR 10 (by decide)
    have v11 : v 11 = (Value.agg (vC a)) := hR 11 (by decide)
    have v13 : v 13 = (Value.agg (vC l)) := hR 13 (by decide)
    have v14 : v 14 = (Value.agg (vC l)) := hR 14 (by decide)
    have v15 : v 15 = (Value.bool true) := hR 15 (by decide)
    have v16 : v 16 = (Value.bool true) := hR 16 (by decide)
    have v17 : v 17 = (Value.bool true) := hR 17 (by decide)
    have v18 : v 18 = (Value.agg (vC c)) := hR 18 (by decide)
    have v19 : v 19 = (Value.agg (vC u)) := hR 19 (by decide)
    have v20 : v 20 = (Value.agg (vC a)) := hR 20 (by decide)
    have v22 : v 22 = (Value.agg (vC x)) := hR 22 (by decide)
    have v23 : v 23 = (Value.agg (vC x)) := hR 23 (by decide)
    have v24 : v 24 = (Value.bool true) := hR 24 (by decide)
    have v25 : v 25 = (Value.bool true) := hR 25 (by decide)
    have v26 : v 26 = (Value.bool true) := hR 26 (by decide)
    have v27 : v 27 = (Value.agg (vC c)) := hR 27 (by decide)
    have v28 : v 28 = (Value.agg (vC l)) := hR 28 (by decide)
    have v29 : v 29 = (Value.agg (vC a)) := hR 29 (by decide)
    have v31 : v 31 = (Value.agg (vC y)) := hR 31 (by decide)
    have v32 : v 32 = (Value.agg (vC y)) := hR 32 (by decide)
    have v33 : v 33 = (Value.bool true) := hR 33 (by decide)
    have v34 : v 34 = (Value.bool true) := hR 34 (by decide)
    have v35 : v 35 = (Value.bool true) := hR 35 (by decide)
    have v36 : v 36 = (Value.agg (vC a)) := hR 36 (by decide)
    have v37 : v 37 = (Value.agg (vC a)) := hR 37 (by decide)
    have v39 : v 39 = (Value.agg (vC a)) := hR 39 (by decide)
    have v40 : v 40 = (Value.agg (vC a)) := hR 40 (by decide)
    have v41 : v 41 = (Value.bool true) := hR 41 (by decide)
    have v42 : v 42 = (Value.bool true) := hR 42 (by decide)
    have v43 : v 43 = (Value.bool true) := hR 43 (by decide)
    have v44 : v 44 = (Value.agg (vC a)) := hR 44 (by decide)
    have v45 : v 45 = (Value.agg (vC a)) := hR 45 (by decide)
    have v47 : v 47 = (Value.agg (vC a)) := hR 47 (by decide)
    have v48 : v 48 = (Value.agg (vC a)) := hR 48 (by decide)
    have v49 : v 49 = (Value.bool true) := hR 49 (by decide)
    have v50 : v 50 = (Value.bool true) := hR 50 (by decide)
    have v51 : v 51 = (Value.bool true) := hR 51 (by decide)
    have v52 : v 52 = (Value.agg (vC a)) := hR 52 (by decide)
    have v53 : v 53 = (Value.agg (vC a)) := hR 53 (by decide)
    have v54 : v 54 = (Value.agg (vC b)) := hR 54 (by decide)
    have v56 : v 56 = (Value.agg (vC l)) := hR 56 (by decide)
    have v58 : v 58 = (Value.agg (vC a)) := hR 58 (by decide)
    have v59 : v 59 = (Value.agg (vC a)) := hR 59 (by decide)
    have v60 : v 60 = (Value.bool true) := hR 60 (by decide)
    have v61 : v 61 = (Value.bool true) := hR 61 (by decide)
    have v62 : v 62 = (Value.bool true) := hR 62 (by decide)
    rw [hfin v, v0, v1, v2, v3, v5, v6, v7, v8, v9, v10, v11, v13, v14, v15, v16, v17, v18, v19, v20, v22, v23, v24, v25, v26, v27, v28, v29, v31, v32, v33, v34, v35, v36, v37, v39, v40, v41, v42, v43, v44, v45, v47, v48, v49, v50, v51, v52, v53, v54, v56, v58, v59, v60, v61, v62]
    exact hend w (v 4) (v 12) (v 21) (v 30) (v 38) (v 46) (v 55) (v 57) hb 
end Go.Proofs.Ytfifbjlmbdgmjaa
