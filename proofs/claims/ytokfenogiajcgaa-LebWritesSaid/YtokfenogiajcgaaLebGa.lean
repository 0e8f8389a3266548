/- Regions that draw their order: their obligations (printed by regen2.py). -/
import Derived.Test.YtokfenogiajcgaaLebP
import Derived.Test.YtokfenogiajcgaaRegT
namespace Go.Proofs.Ytokfenogiajcgaa
open Go.RowKit
set_option linter.unusedVariables false
set_option linter.unusedSimpArgs false
set_option linter.unusedSectionVars false
def lw13aR (ad pp : Addr) (nn cl k on gg : Nat) : Nat → Value → World → Prop
  | 0 => fun x_ _ => x_ = (Value.slice (some ad) nn cl)
  | 1 => fun x_ _ => x_ = (Value.int IntKind.i64 (k : Int))
  | 2 => fun x_ _ => x_ = (Value.pointer (some pp))
  | 3 => fun x_ _ => x_ = (Value.pointer (some ⟨pp.block, pp.off + 2, none⟩))
  | 4 => fun x_ _ => x_ = (Value.int IntKind.u64 (on : Int))
  | _ => fun _ _ => True
theorem lw13a_stable (ad pp : Addr) (nn cl k on gg : Nat) : ∀ i_ u_ w_ w_', (lw13aR ad pp nn cl k on gg) i_ u_ w_ → Below w_.heap.size w_ w_' → (lw13aR ad pp nn cl k on gg) i_ u_ w_' := fun i_ u_ w_ w_' h_ hb_ => by
  match i_, h_ with
  | 0, h_ => exact h_
  | 1, h_ => exact h_
  | 2, h_ => exact h_
  | 3, h_ => exact h_
  | 4, h_ => exact h_
  | 5, h_ => exact h_
  | 6, h_ => exact h_
  | 7, h_ => exact h_
  | 8, h_ => exact h_
  | 9, h_ => exact h_
  | 10, h_ => exact h_
  | 11, h_ => exact h_
  | 12, h_ => exact h_
  | 13, h_ => exact h_
  | 14, h_ => exact h_
  | 15, h_ => exact h_
  | 16, h_ => exact h_
  | 17, h_ => exact h_
  | 18, h_ => exact h_
  | 19, h_ => exact h_
  | 20, h_ => exact h_
  | 21, h_ => exact h_
  | 22, h_ => exact h_
  | 23, h_ => exact h_
  | (_ + 24), _ => trivial
section
variable (ad pp : Addr) (nn cl k on gg : Nat) (w0 : World) (a0 : Act)
variable (hkl : k < nn) (hpp : ad.add (k * 4) = pp)
variable (CN : ∀ W, Below w0.heap.size w0 W → W.cell? ⟨pp.block, pp.off + 2, none⟩ = some (Value.int IntKind.u64 (on : Int)))
variable (i0 : a0.eval (.tmp 0) = (Value.slice (some ad) nn cl)) (i3 : a0.eval (.tmp 3) = (Value.pointer (some ⟨gg, 0, none⟩))) (i5 : a0.eval (.tmp 5) = (Value.int IntKind.i64 (k : Int))) (hsz : a0.tmps.size = 136)
include ad pp nn cl k on gg w0 a0 hkl hpp CN i0 i3 i5 hsz
set_option maxHeartbeats 4000000 in
set_option maxRecDepth 20000 in
theorem lw13a_h0 :
    Reg.OpOKB Try.prog (Reg.opsOf Try.f3 13) [] a0 w0 (lw13aR ad pp nn cl k on gg) 0 := by
    refine Reg.op_okB2 (fun af => { dst := some 39, op := Op.move (Operand.tmp 0), type := 22, pos := "law.go:38", after := af, guard := none }) #[] (by kernel_rfl) [] (by kernel_rfl) fun af v W hb hd => ?_
    have e0 := (Reg.gfr_eval0 (ops := (Reg.opsOf Try.f3 13)) (a0 := a0) (v := v) (L := []) 0 (by kernel_rfl)).trans i0
    refine ⟨Reg.wanted_none rfl, ?_⟩
    generalize Reg.gfr (Reg.opsOf Try.f3 13) a0 v [] = G at e0 ⊢
    generalize hρ : G.eval = ρ at e0
    have hρ' : G.eval = ρ := hρ
    refine Reg.go_run (Value.slice (some ad) nn cl) W ?_ ?_
    · rw [hρ']; simp [execOp, go_sem, e0]
    · exact ⟨Below.refl _ _, rfl⟩
set_option maxHeartbeats 4000000 in
set_option maxRecDepth 20000 in
theorem lw13a_h1 :
    Reg.OpOKB Try.prog (Reg.opsOf Try.f3 13) [] a0 w0 (lw13aR ad pp nn cl k on gg) 1 := by
    refine Reg.op_okB2 (fun af => { dst := some 40, op := Op.move (Operand.tmp 5), type := 3, pos := "law.go:38", after := af, guard := none }) #[] (by kernel_rfl) [] (by kernel_rfl) fun af v W hb hd => ?_
    have e5 := (Reg.gfr_eval0 (ops := (Reg.opsOf Try.f3 13)) (a0 := a0) (v := v) (L := []) 5 (by kernel_rfl)).trans i5
    refine ⟨Reg.wanted_none rfl, ?_⟩
    generalize Reg.gfr (Reg.opsOf Try.f3 13) a0 v [] = G at e5 ⊢
    generalize hρ : G.eval = ρ at e5
    have hρ' : G.eval = ρ := hρ
    refine Reg.go_run (Value.int IntKind.i64 (k : Int)) W ?_ ?_
    · rw [hρ']; simp [execOp, go_sem, e5]
    · exact ⟨Below.refl _ _, rfl⟩
set_option maxHeartbeats 4000000 in
set_option maxRecDepth 20000 in
theorem lw13a_h2 :
    Reg.OpOKB Try.prog (Reg.opsOf Try.f3 13) [] a0 w0 (lw13aR ad pp nn cl k on gg) 2 := by
    refine Reg.op_okB2 (fun af => { dst := some 41, op := Op.indexAddr 22 (Operand.tmp 39) (Operand.tmp 40), type := 0, pos := "law.go:38", after := af, guard := none }) #[{ on := 0, ground := Ground.data }, { on := 1, ground := Ground.data }] (by kernel_rfl) [0, 1] (by kernel_rfl) fun af v W hb hd => ?_
    have d0 : v 0 = (Value.slice (some ad) nn cl) := hd 0 (by decide)
    have d1 : v 1 = (Value.int IntKind.i64 (k : Int)) := hd 1 (by decide)
    have e39 := (Reg.gfr_eval (ops := (Reg.opsOf Try.f3 13)) (a0 := a0) (v := v) (L := [0, 1]) 39 0 (by kernel_rfl) (by rw [hsz]; omega)).trans d0
    have e40 := (Reg.gfr_eval (ops := (Reg.opsOf Try.f3 13)) (a0 := a0) (v := v) (L := [0, 1]) 40 1 (by kernel_rfl) (by rw [hsz]; omega)).trans d1
    refine ⟨Reg.wanted_none rfl, ?_⟩
    generalize Reg.gfr (Reg.opsOf Try.f3 13) a0 v [0, 1] = G at e39 e40 ⊢
    generalize hρ : G.eval = ρ at e39 e40
    have hρ' : G.eval = ρ := hρ
    refine Reg.go_run (Value.pointer (some pp)) W ?_ ?_
    · rw [hρ']; simp [execOp, go_sem, e39, e40, hkl, hpp]
    · exact ⟨Below.refl _ _, rfl⟩
set_option maxHeartbeats 4000000 in
set_option maxRecDepth 20000 in
theorem lw13a_h3 :
    Reg.OpOKB Try.prog (Reg.opsOf Try.f3 13) [] a0 w0 (lw13aR ad pp nn cl k on gg) 3 := by
    refine Reg.op_okB2 (fun af => { dst := some 42, op := Op.fieldAddr 30 (Operand.tmp 41) 2, type := 0, pos := "law.go:38", after := af, guard := none }) #[{ on := 2, ground := Ground.data }] (by kernel_rfl) [2] (by kernel_rfl) fun af v W hb hd => ?_
    have d2 : v 2 = (Value.pointer (some pp)) := hd 2 (by decide)
    have e41 := (Reg.gfr_eval (ops := (Reg.opsOf Try.f3 13)) (a0 := a0) (v := v) (L := [2]) 41 2 (by kernel_rfl) (by rw [hsz]; omega)).trans d2
    refine ⟨Reg.wanted_none rfl, ?_⟩
    generalize Reg.gfr (Reg.opsOf Try.f3 13) a0 v [2] = G at e41 ⊢
    generalize hρ : G.eval = ρ at e41
    have hρ' : G.eval = ρ := hρ
    refine Reg.go_run (Value.pointer (some ⟨pp.block, pp.off + 2, none⟩)) W ?_ ?_
    · rw [hρ']; simp [execOp, go_sem, e41]
    · exact ⟨Below.refl _ _, rfl⟩
set_option maxHeartbeats 4000000 in
set_option maxRecDepth 20000 in
theorem lw13a_h4 :
    Reg.OpOKB Try.prog (Reg.opsOf Try.f3 13) [] a0 w0 (lw13aR ad pp nn cl k on gg) 4 := by
    refine Reg.op_okB2 (fun af => { dst := some 43, op := Op.load 28 (Operand.tmp 42), type := 28, pos := "law.go:38", after := af, guard := none }) #[{ on := 3, ground := Ground.data }] (by kernel_rfl) [3] (by kernel_rfl) fun af v W hb hd => ?_
    have d3 : v 3 = (Value.pointer (some ⟨pp.block, pp.off + 2, none⟩)) := hd 3 (by decide)
    have e42 := (Reg.gfr_eval (ops := (Reg.opsOf Try.f3 13)) (a0 := a0) (v := v) (L := [3]) 42 3 (by kernel_rfl) (by rw [hsz]; omega)).trans d3
    refine ⟨Reg.wanted_none rfl, ?_⟩
    generalize Reg.gfr (Reg.opsOf Try.f3 13) a0 v [3] = G at e42 ⊢
    generalize hρ : G.eval = ρ at e42
    have hρ' : G.eval = ρ := hρ
    refine Reg.go_run (Value.int IntKind.u64 (on : Int)) W ?_ ?_
    · rw [hρ']; simp [execOp, go_sem, e42, CN W hb]
    · exact ⟨Below.refl _ _, rfl⟩
end
set_option maxHeartbeats 4000000 in
set_option maxRecDepth 20000 in
theorem lw13a (ad pp : Addr) (nn cl k on gg : Nat) (w0 : World) {s1 s2 s4 s6 s7 s8 s9 s10 s11 s12 s13 s14 s15 s16 s17 s18 s19 s20 s21 s22 s23 s24 s25 s26 s27 s28 s29 s30 s31 s32 s33 s34 s35 s36 s37 s38 s39 s40 s41 s42 s43 s44 s45 s46 s47 s48 s49 s50 s51 s52 s53 s54 s55 s56 s57 s58 s59 s60 s61 s62 s63 s64 s65 s66 s67 s68 s69 s70 s71 s72 s73 s74 s75 s76 s77 s78 s79 s80 s81 s82 s83 s84 s85 s86 s87 s88 s89 s90 s91 s92 s93 s94 s95 s96 s97 s98 s99 s100 s101 s102 s103 s104 s105 s106 s107 s108 s109 s110 s111 s112 s113 s114 s115 s116 s117 s118 s119 s120 s121 s122 s123 s124 s125 s126 s127 s128 s129 s130 s131 s132 s133 s134 s135 : Value}
    (hkl : k < nn) (hpp : ad.add (k * 4) = pp)
    (CN : ∀ W, Below w0.heap.size w0 W → W.cell? ⟨pp.block, pp.off + 2, none⟩ = some (Value.int IntKind.u64 (on : Int)))
    {Q : Exit → Act → World → Prop}
    (hend : ∀ (w : World), Below w0.heap.size w0 w → ∀ fuel, Reg.cnt (List.range (Reg.opsOf Try.f3 13).size) (Reg.lst (Reg.opsOf Try.f3 13) ([] ++ [0, 1, 2, 3, 4])) ≤ fuel → wpAny Try.prog .any (Reg.opsOf Try.f3 13) Q fuel (Reg.lst (Reg.opsOf Try.f3 13) ([] ++ [0, 1, 2, 3, 4])) { tmps := #[(Value.slice (some ad) nn cl), s1, s2, (Value.pointer (some ⟨gg, 0, none⟩)), s4, (Value.int IntKind.i64 (k : Int)), s6, s7, s8, s9, s10, s11, s12, s13, s14, s15, s16, s17, s18, s19, s20, s21, s22, s23, s24, s25, s26, s27, s28, s29, s30, s31, s32, s33, s34, s35, s36, s37, s38, (Value.slice (some ad) nn cl), (Value.int IntKind.i64 (k : Int)), (Value.pointer (some pp)), (Value.pointer (some ⟨pp.block, pp.off + 2, none⟩)), (Value.int IntKind.u64 (on : Int)), s44, s45, s46, s47, s48, s49, s50, s51, s52, s53, s54, s55, s56, s57, s58, s59, s60, s61, s62, s63, s64, s65, s66, s67, s68, s69, s70, s71, s72, s73, s74, s75, s76, s77, s78, s79, s80, s81, s82, s83, s84, s85, s86, s87, s88, s89, s90, s91, s92, s93, s94, s95, s96, s97, s98, s99, s100, s101, s102, s103, s104, s105, s106, s107, s108, s109, s110, s111, s112, s113, s114, s115, s116, s117, s118, s119, s120, s121, s122, s123, s124, s125, s126, s127, s128, s129, s130, s131, s132, s133, s134, s135], defers := [] } w) :
    ∀ fuel, Reg.cnt (List.range (Reg.opsOf Try.f3 13).size) (Reg.lst (Reg.opsOf Try.f3 13) []) ≤ fuel → wpAny Try.prog .any (Reg.opsOf Try.f3 13) Q fuel (Reg.lst (Reg.opsOf Try.f3 13) []) { tmps := #[(Value.slice (some ad) nn cl), s1, s2, (Value.pointer (some ⟨gg, 0, none⟩)), s4, (Value.int IntKind.i64 (k : Int)), s6, s7, s8, s9, s10, s11, s12, s13, s14, s15, s16, s17, s18, s19, s20, s21, s22, s23, s24, s25, s26, s27, s28, s29, s30, s31, s32, s33, s34, s35, s36, s37, s38, s39, s40, s41, s42, s43, s44, s45, s46, s47, s48, s49, s50, s51, s52, s53, s54, s55, s56, s57, s58, s59, s60, s61, s62, s63, s64, s65, s66, s67, s68, s69, s70, s71, s72, s73, s74, s75, s76, s77, s78, s79, s80, s81, s82, s83, s84, s85, s86, s87, s88, s89, s90, s91, s92, s93, s94, s95, s96, s97, s98, s99, s100, s101, s102, s103, s104, s105, s106, s107, s108, s109, s110, s111, s112, s113, s114, s115, s116, s117, s118, s119, s120, s121, s122, s123, s124, s125, s126, s127, s128, s129, s130, s131, s132, s133, s134, s135], defers := [] } w0 := by
  obtain ⟨a0, ha0⟩ : ∃ a0 : Act, a0 = { tmps := #[(Value.slice (some ad) nn cl), s1, s2, (Value.pointer (some ⟨gg, 0, none⟩)), s4, (Value.int IntKind.i64 (k : Int)), s6, s7, s8, s9, s10, s11, s12, s13, s14, s15, s16, s17, s18, s19, s20, s21, s22, s23, s24, s25, s26, s27, s28, s29, s30, s31, s32, s33, s34, s35, s36, s37, s38, s39, s40, s41, s42, s43, s44, s45, s46, s47, s48, s49, s50, s51, s52, s53, s54, s55, s56, s57, s58, s59, s60, s61, s62, s63, s64, s65, s66, s67, s68, s69, s70, s71, s72, s73, s74, s75, s76, s77, s78, s79, s80, s81, s82, s83, s84, s85, s86, s87, s88, s89, s90, s91, s92, s93, s94, s95, s96, s97, s98, s99, s100, s101, s102, s103, s104, s105, s106, s107, s108, s109, s110, s111, s112, s113, s114, s115, s116, s117, s118, s119, s120, s121, s122, s123, s124, s125, s126, s127, s128, s129, s130, s131, s132, s133, s134, s135], defers := [] } := ⟨_, rfl⟩
  have hfin : ∀ v : Nat → Value, Reg.gfr (Reg.opsOf Try.f3 13) a0 v [0, 1, 2, 3, 4] = { tmps := #[(Value.slice (some ad) nn cl), s1, s2, (Value.pointer (some ⟨gg, 0, none⟩)), s4, (Value.int IntKind.i64 (k : Int)), s6, s7, s8, s9, s10, s11, s12, s13, s14, s15, s16, s17, s18, s19, s20, s21, s22, s23, s24, s25, s26, s27, s28, s29, s30, s31, s32, s33, s34, s35, s36, s37, s38, v 0, v 1, v 2, v 3, v 4, s44, s45, s46, s47, s48, s49, s50, s51, s52, s53, s54, s55, s56, s57, s58, s59, s60, s61, s62, s63, s64, s65, s66, s67, s68, s69, s70, s71, s72, s73, s74, s75, s76, s77, s78, s79, s80, s81, s82, s83, s84, s85, s86, s87, s88, s89, s90, s91, s92, s93, s94, s95, s96, s97, s98, s99, s100, s101, s102, s103, s104, s105, s106, s107, s108, s109, s110, s111, s112, s113, s114, s115, s116, s117, s118, s119, s120, s121, s122, s123, s124, s125, s126, s127, s128, s129, s130, s131, s132, s133, s134, s135], defers := [] } := fun v => by rw [ha0]; kernel_rfl
  rw [← ha0]
  have i0 : a0.eval (.tmp 0) = (Value.slice (some ad) nn cl) := by rw [ha0]; rfl
  have i3 : a0.eval (.tmp 3) = (Value.pointer (some ⟨gg, 0, none⟩)) := by rw [ha0]; rfl
  have i5 : a0.eval (.tmp 5) = (Value.int IntKind.i64 (k : Int)) := by rw [ha0]; rfl
  have hsz : a0.tmps.size = 136 := by rw [ha0]; rfl
  clear ha0
  have hn : (Reg.opsOf Try.f3 13).size = 24 := by kernel_rfl
  have h0 := lw13a_h0 ad pp nn cl k on gg w0 a0 hkl hpp CN i0 i3 i5 hsz
  have h1 := lw13a_h1 ad pp nn cl k on gg w0 a0 hkl hpp CN i0 i3 i5 hsz
  have h2 := lw13a_h2 ad pp nn cl k on gg w0 a0 hkl hpp CN i0 i3 i5 hsz
  have h3 := lw13a_h3 ad pp nn cl k on gg w0 a0 hkl hpp CN i0 i3 i5 hsz
  have h4 := lw13a_h4 ad pp nn cl k on gg w0 a0 hkl hpp CN i0 i3 i5 hsz
  refine fun fuel hf => Reg.phase_all [] [0, 1, 2, 3, 4] (lw13aR ad pp nn cl k on gg) (by rw [hsz]; kernel_rfl) (by kernel_rfl) (lw13a_stable ad pp nn cl k on gg) (fun i hi => ?_) (fun v w hb hR fuel hf => ?_) fuel hf
  · simp only [List.mem_cons, List.not_mem_nil, or_false] at hi
    rcases hi with rfl | rfl | rfl | rfl | rfl
    · exact h0
    · exact h1
    · exact h2
    · exact h3
    · exact h4
  · have v0 : v 0 = (Value.slice (some ad) nn cl) := hR 0 (by decide)
    have v1 : v 1 = (Value.int IntKind.i64 (k : Int)) := hR 1 (by decide)
    have v2 : v 2 = (Value.pointer (some pp)) := hR 2 (by decide)
    have v3 : v 3 = (Value.pointer (some ⟨pp.block, pp.off + 2, none⟩)) := hR 3 (by decide)
    have v4 : v 4 = (Value.int IntKind.u64 (on : Int)) := hR 4 (by decide)
    rw [hfin v, v0, v1, v2, v3, v4]
    exact hend w  hb  fuel hf
set_option maxHeartbeats 4000000 in
set_option maxRecDepth 20000 in
theorem lw13o (on gg : Nat) (w0 : World) {s0 s1 s2 s4 s5 s6 s7 s8 s9 s10 s11 s12 s13 s14 s15 s16 s17 s18 s19 s20 s21 s22 s23 s24 s25 s26 s27 s28 s29 s30 s31 s32 s33 s34 s35 s36 s37 s38 s39 s40 s41 s42 s44 s45 s46 s47 s48 s49 s50 s51 s52 s53 s54 s55 s56 s57 s58 s59 s60 s61 s62 s63 s64 s65 s66 s67 s68 s69 s70 s71 s72 s73 s74 s75 s76 s77 s78 s79 s80 s81 s82 s83 s84 s85 s86 s87 s88 s89 s90 s91 s92 s93 s94 s95 s96 s97 s98 s99 s100 s101 s102 s103 s104 s105 s106 s107 s108 s109 s110 s111 s112 s113 s114 s115 s116 s117 s118 s119 s120 s121 s122 s123 s124 s125 s126 s127 s128 s129 s130 s131 s132 s133 s134 s135 : Value} {Q : Exit → Act → World → Prop}
    (hc : Calls Try.prog 13 #[(Value.pointer (some ⟨gg, 0, none⟩)), (Value.int IntKind.u64 (on : Int))] w0 fun e w' => ∃ u_, e = .returned u_ ∧ ∀ fuel, Reg.cnt (List.range (Reg.opsOf Try.f3 13).size) (Reg.lst (Reg.opsOf Try.f3 13) ([0, 1, 2, 3, 4] ++ [5])) ≤ fuel → wpAny Try.prog .any (Reg.opsOf Try.f3 13) Q fuel (Reg.lst (Reg.opsOf Try.f3 13) ([0, 1, 2, 3, 4] ++ [5])) { tmps := #[s0, s1, s2, (Value.pointer (some ⟨gg, 0, none⟩)), s4, s5, s6, s7, s8, s9, s10, s11, s12, s13, s14, s15, s16, s17, s18, s19, s20, s21, s22, s23, s24, s25, s26, s27, s28, s29, s30, s31, s32, s33, s34, s35, s36, s37, s38, s39, s40, s41, s42, (Value.int IntKind.u64 (on : Int)), u_, s45, s46, s47, s48, s49, s50, s51, s52, s53, s54, s55, s56, s57, s58, s59, s60, s61, s62, s63, s64, s65, s66, s67, s68, s69, s70, s71, s72, s73, s74, s75, s76, s77, s78, s79, s80, s81, s82, s83, s84, s85, s86, s87, s88, s89, s90, s91, s92, s93, s94, s95, s96, s97, s98, s99, s100, s101, s102, s103, s104, s105, s106, s107, s108, s109, s110, s111, s112, s113, s114, s115, s116, s117, s118, s119, s120, s121, s122, s123, s124, s125, s126, s127, s128, s129, s130, s131, s132, s133, s134, s135], defers := [] } w') :
    ∀ fuel, Reg.cnt (List.range (Reg.opsOf Try.f3 13).size) (Reg.lst (Reg.opsOf Try.f3 13) [0, 1, 2, 3, 4]) ≤ fuel → wpAny Try.prog .any (Reg.opsOf Try.f3 13) Q fuel (Reg.lst (Reg.opsOf Try.f3 13) [0, 1, 2, 3, 4]) { tmps := #[s0, s1, s2, (Value.pointer (some ⟨gg, 0, none⟩)), s4, s5, s6, s7, s8, s9, s10, s11, s12, s13, s14, s15, s16, s17, s18, s19, s20, s21, s22, s23, s24, s25, s26, s27, s28, s29, s30, s31, s32, s33, s34, s35, s36, s37, s38, s39, s40, s41, s42, (Value.int IntKind.u64 (on : Int)), s44, s45, s46, s47, s48, s49, s50, s51, s52, s53, s54, s55, s56, s57, s58, s59, s60, s61, s62, s63, s64, s65, s66, s67, s68, s69, s70, s71, s72, s73, s74, s75, s76, s77, s78, s79, s80, s81, s82, s83, s84, s85, s86, s87, s88, s89, s90, s91, s92, s93, s94, s95, s96, s97, s98, s99, s100, s101, s102, s103, s104, s105, s106, s107, s108, s109, s110, s111, s112, s113, s114, s115, s116, s117, s118, s119, s120, s121, s122, s123, s124, s125, s126, s127, s128, s129, s130, s131, s132, s133, s134, s135], defers := [] } w0 := by
  obtain ⟨a0, ha0⟩ : ∃ a0 : Act, a0 = { tmps := #[s0, s1, s2, (Value.pointer (some ⟨gg, 0, none⟩)), s4, s5, s6, s7, s8, s9, s10, s11, s12, s13, s14, s15, s16, s17, s18, s19, s20, s21, s22, s23, s24, s25, s26, s27, s28, s29, s30, s31, s32, s33, s34, s35, s36, s37, s38, s39, s40, s41, s42, (Value.int IntKind.u64 (on : Int)), s44, s45, s46, s47, s48, s49, s50, s51, s52, s53, s54, s55, s56, s57, s58, s59, s60, s61, s62, s63, s64, s65, s66, s67, s68, s69, s70, s71, s72, s73, s74, s75, s76, s77, s78, s79, s80, s81, s82, s83, s84, s85, s86, s87, s88, s89, s90, s91, s92, s93, s94, s95, s96, s97, s98, s99, s100, s101, s102, s103, s104, s105, s106, s107, s108, s109, s110, s111, s112, s113, s114, s115, s116, s117, s118, s119, s120, s121, s122, s123, s124, s125, s126, s127, s128, s129, s130, s131, s132, s133, s134, s135], defers := [] } := ⟨_, rfl⟩
  have hput : ∀ u_ : Value, a0.put (some 44) u_ = { tmps := #[s0, s1, s2, (Value.pointer (some ⟨gg, 0, none⟩)), s4, s5, s6, s7, s8, s9, s10, s11, s12, s13, s14, s15, s16, s17, s18, s19, s20, s21, s22, s23, s24, s25, s26, s27, s28, s29, s30, s31, s32, s33, s34, s35, s36, s37, s38, s39, s40, s41, s42, (Value.int IntKind.u64 (on : Int)), u_, s45, s46, s47, s48, s49, s50, s51, s52, s53, s54, s55, s56, s57, s58, s59, s60, s61, s62, s63, s64, s65, s66, s67, s68, s69, s70, s71, s72, s73, s74, s75, s76, s77, s78, s79, s80, s81, s82, s83, s84, s85, s86, s87, s88, s89, s90, s91, s92, s93, s94, s95, s96, s97, s98, s99, s100, s101, s102, s103, s104, s105, s106, s107, s108, s109, s110, s111, s112, s113, s114, s115, s116, s117, s118, s119, s120, s121, s122, s123, s124, s125, s126, s127, s128, s129, s130, s131, s132, s133, s134, s135], defers := [] } := fun u_ => by rw [ha0]; kernel_rfl
  have e3 : a0.eval (.tmp 3) = (Value.pointer (some ⟨gg, 0, none⟩)) := by rw [ha0]; rfl
  have e43 : a0.eval (.tmp 43) = (Value.int IntKind.u64 (on : Int)) := by rw [ha0]; rfl
  have eF : ∀ f, a0.eval (.func f) = .func (.func f) #[] #[] := fun _ => rfl
  have eC : ∀ x, a0.eval (.const x) = x := fun _ => rfl
  rw [← ha0]
  refine fun fuel hf => Reg.phase_one [0, 1, 2, 3, 4] 5 (by kernel_rfl) (by kernel_rfl) (of_decide_eq_true (by kernel_rfl)) (by kernel_rfl) (by kernel_rfl) (fun af => { dst := some 44, op := Op.call { callee := Callee.value (Operand.func 13), args := #[Operand.tmp 3, Operand.tmp 43], argTypes := #[26, 28] }, type := 32, pos := "law.go:38", after := af, guard := none }) #[{ on := 4, ground := Ground.data }] (by kernel_rfl) (fun af K hK => ?_) fuel hf
  rw [if_pos (Reg.wanted_none rfl)]
  clear ha0
  refine Reg.one_call 13 #[(Value.pointer (some ⟨gg, 0, none⟩)), (Value.int IntKind.u64 (on : Int))] ?_ (hc.mono fun e w' he => ?_)
  · generalize hρ : a0.eval = ρ at e3 e43 eF eC
    simp [execOp, go_sem, e3, e43, eF, eC]
  · obtain ⟨u_, rfl, h⟩ := he
    refine ⟨u_, rfl, hK _ _ ?_⟩
    have hp := hput u_
    simp only at hp ⊢
    rw [hp]
    exact h
def lw13bR (ad pp : Addr) (nn cl k on gg : Nat) : Nat → Value → World → Prop
  | 6 => fun x_ _ => x_ = (Value.bool true)
  | 7 => fun x_ _ => x_ = (Value.bool true)
  | 8 => fun x_ _ => x_ = (Value.slice (some ad) nn cl)
  | 9 => fun x_ _ => x_ = (Value.int IntKind.i64 (k : Int))
  | 10 => fun x_ _ => x_ = (Value.pointer (some pp))
  | 11 => fun x_ _ => x_ = (Value.pointer (some ⟨pp.block, pp.off + 2, none⟩))
  | 12 => fun x_ _ => x_ = (Value.int IntKind.u64 (on : Int))
  | 13 => fun x_ _ => x_ = (Value.int IntKind.i64 ((numB on).length : Int))
  | 14 => fun x_ _ => x_ = (Value.slice (some ad) nn cl)
  | 15 => fun x_ _ => x_ = (Value.int IntKind.i64 (k : Int))
  | 16 => fun x_ _ => x_ = (Value.pointer (some pp))
  | 17 => fun x_ _ => x_ = (Value.pointer (some ⟨pp.block, pp.off + 2, none⟩))
  | 18 => fun x_ _ => x_ = (Value.int IntKind.u64 (on : Int))
  | 19 => (fun u_ _ => ∃ A_ c_, u_ = Value.slice A_ (numB on).length c_)
  | 20 => fun x_ _ => x_ = (Value.int IntKind.i64 ((numB on).length : Int))
  | 21 => fun x_ _ => x_ = (Value.bool true)
  | 22 => fun x_ _ => x_ = (Value.bool true)
  | 23 => fun x_ _ => x_ = (Value.bool true)
  | _ => fun _ _ => True
theorem lw13b_stable (ad pp : Addr) (nn cl k on gg : Nat) : ∀ i_ u_ w_ w_', (lw13bR ad pp nn cl k on gg) i_ u_ w_ → Below w_.heap.size w_ w_' → (lw13bR ad pp nn cl k on gg) i_ u_ w_' := fun i_ u_ w_ w_' h_ hb_ => by
  match i_, h_ with
  | 0, h_ => exact h_
  | 1, h_ => exact h_
  | 2, h_ => exact h_
  | 3, h_ => exact h_
  | 4, h_ => exact h_
  | 5, h_ => exact h_
  | 6, h_ => exact h_
  | 7, h_ => exact h_
  | 8, h_ => exact h_
  | 9, h_ => exact h_
  | 10, h_ => exact h_
  | 11, h_ => exact h_
  | 12, h_ => exact h_
  | 13, h_ => exact h_
  | 14, h_ => exact h_
  | 15, h_ => exact h_
  | 16, h_ => exact h_
  | 17, h_ => exact h_
  | 18, h_ => exact h_
  | 19, h_ => exact (h_)
  | 20, h_ => exact h_
  | 21, h_ => exact h_
  | 22, h_ => exact h_
  | 23, h_ => exact h_
  | (_ + 24), _ => trivial
section
variable (ad pp : Addr) (nn cl k on gg : Nat) (w0 : World) (a0 : Act) (s39 s40 s41 s42 s43 : Value)
variable (hkl : k < nn) (hpp : ad.add (k * 4) = pp) (hon : on < 18446744073709551616)
variable (qp : ∀ (W : World) (b : Nat), (binOp .eql 32 (.pointer (some ⟨b, 0, none⟩)) (.pointer (some ⟨b, 0, none⟩))).run Try.prog W = .ok (.bool true) W)
variable (CN : ∀ W, Below w0.heap.size w0 W → W.cell? ⟨pp.block, pp.off + 2, none⟩ = some (Value.int IntKind.u64 (on : Int)))
variable (i0 : a0.eval (.tmp 0) = (Value.slice (some ad) nn cl)) (i3 : a0.eval (.tmp 3) = (Value.pointer (some ⟨gg, 0, none⟩))) (i5 : a0.eval (.tmp 5) = (Value.int IntKind.i64 (k : Int))) (i44 : a0.eval (.tmp 44) = (Value.pointer (some ⟨gg, 0, none⟩))) (i39 : a0.eval (.tmp 39) = s39) (i40 : a0.eval (.tmp 40) = s40) (i41 : a0.eval (.tmp 41) = s41) (i42 : a0.eval (.tmp 42) = s42) (i43 : a0.eval (.tmp 43) = s43) (hsz : a0.tmps.size = 136)
include ad pp nn cl k on gg w0 a0 s39 s40 s41 s42 s43 hkl hpp hon qp CN i0 i3 i5 i44 i39 i40 i41 i42 i43 hsz
set_option maxHeartbeats 4000000 in
set_option maxRecDepth 20000 in
theorem lw13b_h6 :
    Reg.OpOKB Try.prog (Reg.opsOf Try.f3 13) [0, 1, 2, 3, 4, 5] a0 w0 (lw13bR ad pp nn cl k on gg) 6 := by
    refine Reg.op_okB2 (fun af => { dst := some 45, op := Op.binOp BinOp.eql 32 (Operand.tmp 44) (Operand.tmp 3) 32, type := 4, pos := "law.go:38", after := af, guard := none }) #[{ on := 5, ground := Ground.data }] (by kernel_rfl) [] (by kernel_rfl) fun af v W hb hd => ?_
    have e44 := (Reg.gfr_eval0 (ops := (Reg.opsOf Try.f3 13)) (a0 := a0) (v := v) (L := []) 44 (by kernel_rfl)).trans i44
    have e3 := (Reg.gfr_eval0 (ops := (Reg.opsOf Try.f3 13)) (a0 := a0) (v := v) (L := []) 3 (by kernel_rfl)).trans i3
    refine ⟨Reg.wanted_none rfl, ?_⟩
    generalize Reg.gfr (Reg.opsOf Try.f3 13) a0 v [] = G at e44 e3 ⊢
    generalize hρ : G.eval = ρ at e44 e3
    have hρ' : G.eval = ρ := hρ
    refine Reg.go_run (Value.bool true) W ?_ ?_
    · rw [hρ']; simp [execOp, go_sem, e44, e3, qp]
    · exact ⟨Below.refl _ _, rfl⟩
set_option maxHeartbeats 4000000 in
set_option maxRecDepth 20000 in
theorem lw13b_h7 :
    Reg.OpOKB Try.prog (Reg.opsOf Try.f3 13) [0, 1, 2, 3, 4, 5] a0 w0 (lw13bR ad pp nn cl k on gg) 7 := by
    refine Reg.op_okB2 (fun af => { dst := some 46, op := Op.move (Operand.tmp 45), type := 4, pos := "law.go:38", after := af, guard := none }) #[{ on := 6, ground := Ground.data }, { on := 5, ground := Ground.chain }] (by kernel_rfl) [6] (by kernel_rfl) fun af v W hb hd => ?_
    have d6 : v 6 = (Value.bool true) := hd 6 (by decide)
    have e45 := (Reg.gfr_eval (ops := (Reg.opsOf Try.f3 13)) (a0 := a0) (v := v) (L := [6]) 45 6 (by kernel_rfl) (by rw [hsz]; omega)).trans d6
    refine ⟨Reg.wanted_none rfl, ?_⟩
    generalize Reg.gfr (Reg.opsOf Try.f3 13) a0 v [6] = G at e45 ⊢
    generalize hρ : G.eval = ρ at e45
    have hρ' : G.eval = ρ := hρ
    refine Reg.go_run (Value.bool true) W ?_ ?_
    · rw [hρ']; simp [execOp, go_sem, e45]
    · exact ⟨Below.refl _ _, rfl⟩
set_option maxHeartbeats 4000000 in
set_option maxRecDepth 20000 in
theorem lw13b_h8 :
    Reg.OpOKB Try.prog (Reg.opsOf Try.f3 13) [0, 1, 2, 3, 4, 5] a0 w0 (lw13bR ad pp nn cl k on gg) 8 := by
    refine Reg.op_okB2 (fun af => { dst := some 47, op := Op.move (Operand.tmp 0), type := 22, pos := "law.go:38", after := af, guard := some (7, true) }) #[{ on := 7, ground := Ground.guard }] (by kernel_rfl) [7] (by kernel_rfl) fun af v W hb hd => ?_
    have d7 : v 7 = (Value.bool true) := hd 7 (by decide)
    have e0 := (Reg.gfr_eval0 (ops := (Reg.opsOf Try.f3 13)) (a0 := a0) (v := v) (L := [7]) 0 (by kernel_rfl)).trans i0
    have e46 := (Reg.gfr_eval (ops := (Reg.opsOf Try.f3 13)) (a0 := a0) (v := v) (L := [7]) 46 7 (by kernel_rfl) (by rw [hsz]; omega)).trans d7
    refine ⟨Reg.wanted_of rfl (by kernel_rfl) e46, ?_⟩
    generalize Reg.gfr (Reg.opsOf Try.f3 13) a0 v [7] = G at e0 ⊢
    generalize hρ : G.eval = ρ at e0
    have hρ' : G.eval = ρ := hρ
    refine Reg.go_run (Value.slice (some ad) nn cl) W ?_ ?_
    · rw [hρ']; simp [execOp, go_sem, e0]
    · exact ⟨Below.refl _ _, rfl⟩
set_option maxHeartbeats 4000000 in
set_option maxRecDepth 20000 in
theorem lw13b_h9 :
    Reg.OpOKB Try.prog (Reg.opsOf Try.f3 13) [0, 1, 2, 3, 4, 5] a0 w0 (lw13bR ad pp nn cl k on gg) 9 := by
    refine Reg.op_okB2 (fun af => { dst := some 48, op := Op.move (Operand.tmp 5), type := 3, pos := "law.go:38", after := af, guard := some (7, true) }) #[{ on := 7, ground := Ground.guard }] (by kernel_rfl) [7] (by kernel_rfl) fun af v W hb hd => ?_
    have d7 : v 7 = (Value.bool true) := hd 7 (by decide)
    have e5 := (Reg.gfr_eval0 (ops := (Reg.opsOf Try.f3 13)) (a0 := a0) (v := v) (L := [7]) 5 (by kernel_rfl)).trans i5
    have e46 := (Reg.gfr_eval (ops := (Reg.opsOf Try.f3 13)) (a0 := a0) (v := v) (L := [7]) 46 7 (by kernel_rfl) (by rw [hsz]; omega)).trans d7
    refine ⟨Reg.wanted_of rfl (by kernel_rfl) e46, ?_⟩
    generalize Reg.gfr (Reg.opsOf Try.f3 13) a0 v [7] = G at e5 ⊢
    generalize hρ : G.eval = ρ at e5
    have hρ' : G.eval = ρ := hρ
    refine Reg.go_run (Value.int IntKind.i64 (k : Int)) W ?_ ?_
    · rw [hρ']; simp [execOp, go_sem, e5]
    · exact ⟨Below.refl _ _, rfl⟩
set_option maxHeartbeats 4000000 in
set_option maxRecDepth 20000 in
theorem lw13b_h10 :
    Reg.OpOKB Try.prog (Reg.opsOf Try.f3 13) [0, 1, 2, 3, 4, 5] a0 w0 (lw13bR ad pp nn cl k on gg) 10 := by
    refine Reg.op_okB2 (fun af => { dst := some 49, op := Op.indexAddr 22 (Operand.tmp 47) (Operand.tmp 48), type := 0, pos := "law.go:38", after := af, guard := some (7, true) }) #[{ on := 8, ground := Ground.data }, { on := 9, ground := Ground.data }, { on := 7, ground := Ground.guard }] (by kernel_rfl) [8, 9, 7] (by kernel_rfl) fun af v W hb hd => ?_
    have d7 : v 7 = (Value.bool true) := hd 7 (by decide)
    have d8 : v 8 = (Value.slice (some ad) nn cl) := hd 8 (by decide)
    have d9 : v 9 = (Value.int IntKind.i64 (k : Int)) := hd 9 (by decide)
    have e47 := (Reg.gfr_eval (ops := (Reg.opsOf Try.f3 13)) (a0 := a0) (v := v) (L := [8, 9, 7]) 47 8 (by kernel_rfl) (by rw [hsz]; omega)).trans d8
    have e48 := (Reg.gfr_eval (ops := (Reg.opsOf Try.f3 13)) (a0 := a0) (v := v) (L := [8, 9, 7]) 48 9 (by kernel_rfl) (by rw [hsz]; omega)).trans d9
    have e46 := (Reg.gfr_eval (ops := (Reg.opsOf Try.f3 13)) (a0 := a0) (v := v) (L := [8, 9, 7]) 46 7 (by kernel_rfl) (by rw [hsz]; omega)).trans d7
    refine ⟨Reg.wanted_of rfl (by kernel_rfl) e46, ?_⟩
    generalize Reg.gfr (Reg.opsOf Try.f3 13) a0 v [8, 9, 7] = G at e47 e48 ⊢
    generalize hρ : G.eval = ρ at e47 e48
    have hρ' : G.eval = ρ := hρ
    refine Reg.go_run (Value.pointer (some pp)) W ?_ ?_
    · rw [hρ']; simp [execOp, go_sem, e47, e48, hkl, hpp]
    · exact ⟨Below.refl _ _, rfl⟩
set_option maxHeartbeats 4000000 in
set_option maxRecDepth 20000 in
theorem lw13b_h11 :
    Reg.OpOKB Try.prog (Reg.opsOf Try.f3 13) [0, 1, 2, 3, 4, 5] a0 w0 (lw13bR ad pp nn cl k on gg) 11 := by
    refine Reg.op_okB2 (fun af => { dst := some 50, op := Op.fieldAddr 30 (Operand.tmp 49) 2, type := 0, pos := "law.go:38", after := af, guard := some (7, true) }) #[{ on := 10, ground := Ground.data }, { on := 7, ground := Ground.guard }] (by kernel_rfl) [10, 7] (by kernel_rfl) fun af v W hb hd => ?_
    have d7 : v 7 = (Value.bool true) := hd 7 (by decide)
    have d10 : v 10 = (Value.pointer (some pp)) := hd 10 (by decide)
    have e49 := (Reg.gfr_eval (ops := (Reg.opsOf Try.f3 13)) (a0 := a0) (v := v) (L := [10, 7]) 49 10 (by kernel_rfl) (by rw [hsz]; omega)).trans d10
    have e46 := (Reg.gfr_eval (ops := (Reg.opsOf Try.f3 13)) (a0 := a0) (v := v) (L := [10, 7]) 46 7 (by kernel_rfl) (by rw [hsz]; omega)).trans d7
    refine ⟨Reg.wanted_of rfl (by kernel_rfl) e46, ?_⟩
    generalize Reg.gfr (Reg.opsOf Try.f3 13) a0 v [10, 7] = G at e49 ⊢
    generalize hρ : G.eval = ρ at e49
    have hρ' : G.eval = ρ := hρ
    refine Reg.go_run (Value.pointer (some ⟨pp.block, pp.off + 2, none⟩)) W ?_ ?_
    · rw [hρ']; simp [execOp, go_sem, e49]
    · exact ⟨Below.refl _ _, rfl⟩
set_option maxHeartbeats 4000000 in
set_option maxRecDepth 20000 in
theorem lw13b_h12 :
    Reg.OpOKB Try.prog (Reg.opsOf Try.f3 13) [0, 1, 2, 3, 4, 5] a0 w0 (lw13bR ad pp nn cl k on gg) 12 := by
    refine Reg.op_okB2 (fun af => { dst := some 51, op := Op.load 28 (Operand.tmp 50), type := 28, pos := "law.go:38", after := af, guard := some (7, true) }) #[{ on := 11, ground := Ground.data }, { on := 7, ground := Ground.guard }] (by kernel_rfl) [11, 7] (by kernel_rfl) fun af v W hb hd => ?_
    have d7 : v 7 = (Value.bool true) := hd 7 (by decide)
    have d11 : v 11 = (Value.pointer (some ⟨pp.block, pp.off + 2, none⟩)) := hd 11 (by decide)
    have e50 := (Reg.gfr_eval (ops := (Reg.opsOf Try.f3 13)) (a0 := a0) (v := v) (L := [11, 7]) 50 11 (by kernel_rfl) (by rw [hsz]; omega)).trans d11
    have e46 := (Reg.gfr_eval (ops := (Reg.opsOf Try.f3 13)) (a0 := a0) (v := v) (L := [11, 7]) 46 7 (by kernel_rfl) (by rw [hsz]; omega)).trans d7
    refine ⟨Reg.wanted_of rfl (by kernel_rfl) e46, ?_⟩
    generalize Reg.gfr (Reg.opsOf Try.f3 13) a0 v [11, 7] = G at e50 ⊢
    generalize hρ : G.eval = ρ at e50
    have hρ' : G.eval = ρ := hρ
    refine Reg.go_run (Value.int IntKind.u64 (on : Int)) W ?_ ?_
    · rw [hρ']; simp [execOp, go_sem, e50, CN W hb]
    · exact ⟨Below.refl _ _, rfl⟩
set_option maxHeartbeats 4000000 in
set_option maxRecDepth 20000 in
theorem lw13b_h13 :
    Reg.OpOKB Try.prog (Reg.opsOf Try.f3 13) [0, 1, 2, 3, 4, 5] a0 w0 (lw13bR ad pp nn cl k on gg) 13 := by
    refine Reg.op_okB2 (fun af => { dst := some 52, op := Op.call { callee := Callee.value (Operand.func 14), args := #[Operand.tmp 51], argTypes := #[28] }, type := 3, pos := "law.go:38", after := af, guard := some (7, true) }) #[{ on := 12, ground := Ground.data }, { on := 7, ground := Ground.chain }, { on := 7, ground := Ground.guard }] (by kernel_rfl) [12, 7, 7] (by kernel_rfl) fun af v W hb hd => ?_
    have d7 : v 7 = (Value.bool true) := hd 7 (by decide)
    have d12 : v 12 = (Value.int IntKind.u64 (on : Int)) := hd 12 (by decide)
    have e51 := (Reg.gfr_eval (ops := (Reg.opsOf Try.f3 13)) (a0 := a0) (v := v) (L := [12, 7, 7]) 51 12 (by kernel_rfl) (by rw [hsz]; omega)).trans d12
    have e46 := (Reg.gfr_eval (ops := (Reg.opsOf Try.f3 13)) (a0 := a0) (v := v) (L := [12, 7, 7]) 46 7 (by kernel_rfl) (by rw [hsz]; omega)).trans d7
    refine ⟨Reg.wanted_of rfl (by kernel_rfl) e46, ?_⟩
    have eF : ∀ f, (Reg.gfr (Reg.opsOf Try.f3 13) a0 v [12, 7, 7]).eval (.func f) = .func (.func f) #[] #[] := fun _ => rfl
    generalize Reg.gfr (Reg.opsOf Try.f3 13) a0 v [12, 7, 7] = G at e51 eF ⊢
    generalize hρ : G.eval = ρ at e51 eF
    have hρ' : G.eval = ρ := hρ
    refine Reg.go_call 14 #[(Value.int IntKind.u64 (on : Int))] (by rw [hρ']; simp [execOp, go_sem, e51, eF]) ((size_any on W hon).mono fun e w' he => ?_)
    obtain ⟨rfl, rfl⟩ := he
    exact ⟨_, rfl, Below.refl _ _, rfl⟩
set_option maxHeartbeats 4000000 in
set_option maxRecDepth 20000 in
theorem lw13b_h14 :
    Reg.OpOKB Try.prog (Reg.opsOf Try.f3 13) [0, 1, 2, 3, 4, 5] a0 w0 (lw13bR ad pp nn cl k on gg) 14 := by
    refine Reg.op_okB2 (fun af => { dst := some 53, op := Op.move (Operand.tmp 0), type := 22, pos := "law.go:38", after := af, guard := some (7, true) }) #[{ on := 7, ground := Ground.guard }] (by kernel_rfl) [7] (by kernel_rfl) fun af v W hb hd => ?_
    have d7 : v 7 = (Value.bool true) := hd 7 (by decide)
    have e0 := (Reg.gfr_eval0 (ops := (Reg.opsOf Try.f3 13)) (a0 := a0) (v := v) (L := [7]) 0 (by kernel_rfl)).trans i0
    have e46 := (Reg.gfr_eval (ops := (Reg.opsOf Try.f3 13)) (a0 := a0) (v := v) (L := [7]) 46 7 (by kernel_rfl) (by rw [hsz]; omega)).trans d7
    refine ⟨Reg.wanted_of rfl (by kernel_rfl) e46, ?_⟩
    generalize Reg.gfr (Reg.opsOf Try.f3 13) a0 v [7] = G at e0 ⊢
    generalize hρ : G.eval = ρ at e0
    have hρ' : G.eval = ρ := hρ
    refine Reg.go_run (Value.slice (some ad) nn cl) W ?_ ?_
    · rw [hρ']; simp [execOp, go_sem, e0]
    · exact ⟨Below.refl _ _, rfl⟩
set_option maxHeartbeats 4000000 in
set_option maxRecDepth 20000 in
theorem lw13b_h15 :
    Reg.OpOKB Try.prog (Reg.opsOf Try.f3 13) [0, 1, 2, 3, 4, 5] a0 w0 (lw13bR ad pp nn cl k on gg) 15 := by
    refine Reg.op_okB2 (fun af => { dst := some 54, op := Op.move (Operand.tmp 5), type := 3, pos := "law.go:38", after := af, guard := some (7, true) }) #[{ on := 7, ground := Ground.guard }] (by kernel_rfl) [7] (by kernel_rfl) fun af v W hb hd => ?_
    have d7 : v 7 = (Value.bool true) := hd 7 (by decide)
    have e5 := (Reg.gfr_eval0 (ops := (Reg.opsOf Try.f3 13)) (a0 := a0) (v := v) (L := [7]) 5 (by kernel_rfl)).trans i5
    have e46 := (Reg.gfr_eval (ops := (Reg.opsOf Try.f3 13)) (a0 := a0) (v := v) (L := [7]) 46 7 (by kernel_rfl) (by rw [hsz]; omega)).trans d7
    refine ⟨Reg.wanted_of rfl (by kernel_rfl) e46, ?_⟩
    generalize Reg.gfr (Reg.opsOf Try.f3 13) a0 v [7] = G at e5 ⊢
    generalize hρ : G.eval = ρ at e5
    have hρ' : G.eval = ρ := hρ
    refine Reg.go_run (Value.int IntKind.i64 (k : Int)) W ?_ ?_
    · rw [hρ']; simp [execOp, go_sem, e5]
    · exact ⟨Below.refl _ _, rfl⟩
set_option maxHeartbeats 4000000 in
set_option maxRecDepth 20000 in
theorem lw13b_h16 :
    Reg.OpOKB Try.prog (Reg.opsOf Try.f3 13) [0, 1, 2, 3, 4, 5] a0 w0 (lw13bR ad pp nn cl k on gg) 16 := by
    refine Reg.op_okB2 (fun af => { dst := some 55, op := Op.indexAddr 22 (Operand.tmp 53) (Operand.tmp 54), type := 0, pos := "law.go:38", after := af, guard := some (7, true) }) #[{ on := 14, ground := Ground.data }, { on := 15, ground := Ground.data }, { on := 7, ground := Ground.guard }] (by kernel_rfl) [14, 15, 7] (by kernel_rfl) fun af v W hb hd => ?_
    have d7 : v 7 = (Value.bool true) := hd 7 (by decide)
    have d14 : v 14 = (Value.slice (some ad) nn cl) := hd 14 (by decide)
    have d15 : v 15 = (Value.int IntKind.i64 (k : Int)) := hd 15 (by decide)
    have e53 := (Reg.gfr_eval (ops := (Reg.opsOf Try.f3 13)) (a0 := a0) (v := v) (L := [14, 15, 7]) 53 14 (by kernel_rfl) (by rw [hsz]; omega)).trans d14
    have e54 := (Reg.gfr_eval (ops := (Reg.opsOf Try.f3 13)) (a0 := a0) (v := v) (L := [14, 15, 7]) 54 15 (by kernel_rfl) (by rw [hsz]; omega)).trans d15
    have e46 := (Reg.gfr_eval (ops := (Reg.opsOf Try.f3 13)) (a0 := a0) (v := v) (L := [14, 15, 7]) 46 7 (by kernel_rfl) (by rw [hsz]; omega)).trans d7
    refine ⟨Reg.wanted_of rfl (by kernel_rfl) e46, ?_⟩
    generalize Reg.gfr (Reg.opsOf Try.f3 13) a0 v [14, 15, 7] = G at e53 e54 ⊢
    generalize hρ : G.eval = ρ at e53 e54
    have hρ' : G.eval = ρ := hρ
    refine Reg.go_run (Value.pointer (some pp)) W ?_ ?_
    · rw [hρ']; simp [execOp, go_sem, e53, e54, hkl, hpp]
    · exact ⟨Below.refl _ _, rfl⟩
set_option maxHeartbeats 4000000 in
set_option maxRecDepth 20000 in
theorem lw13b_h17 :
    Reg.OpOKB Try.prog (Reg.opsOf Try.f3 13) [0, 1, 2, 3, 4, 5] a0 w0 (lw13bR ad pp nn cl k on gg) 17 := by
    refine Reg.op_okB2 (fun af => { dst := some 56, op := Op.fieldAddr 30 (Operand.tmp 55) 2, type := 0, pos := "law.go:38", after := af, guard := some (7, true) }) #[{ on := 16, ground := Ground.data }, { on := 7, ground := Ground.guard }] (by kernel_rfl) [16, 7] (by kernel_rfl) fun af v W hb hd => ?_
    have d7 : v 7 = (Value.bool true) := hd 7 (by decide)
    have d16 : v 16 = (Value.pointer (some pp)) := hd 16 (by decide)
    have e55 := (Reg.gfr_eval (ops := (Reg.opsOf Try.f3 13)) (a0 := a0) (v := v) (L := [16, 7]) 55 16 (by kernel_rfl) (by rw [hsz]; omega)).trans d16
    have e46 := (Reg.gfr_eval (ops := (Reg.opsOf Try.f3 13)) (a0 := a0) (v := v) (L := [16, 7]) 46 7 (by kernel_rfl) (by rw [hsz]; omega)).trans d7
    refine ⟨Reg.wanted_of rfl (by kernel_rfl) e46, ?_⟩
    generalize Reg.gfr (Reg.opsOf Try.f3 13) a0 v [16, 7] = G at e55 ⊢
    generalize hρ : G.eval = ρ at e55
    have hρ' : G.eval = ρ := hρ
    refine Reg.go_run (Value.pointer (some ⟨pp.block, pp.off + 2, none⟩)) W ?_ ?_
    · rw [hρ']; simp [execOp, go_sem, e55]
    · exact ⟨Below.refl _ _, rfl⟩
set_option maxHeartbeats 4000000 in
set_option maxRecDepth 20000 in
theorem lw13b_h18 :
    Reg.OpOKB Try.prog (Reg.opsOf Try.f3 13) [0, 1, 2, 3, 4, 5] a0 w0 (lw13bR ad pp nn cl k on gg) 18 := by
    refine Reg.op_okB2 (fun af => { dst := some 57, op := Op.load 28 (Operand.tmp 56), type := 28, pos := "law.go:38", after := af, guard := some (7, true) }) #[{ on := 17, ground := Ground.data }, { on := 7, ground := Ground.guard }] (by kernel_rfl) [17, 7] (by kernel_rfl) fun af v W hb hd => ?_
    have d7 : v 7 = (Value.bool true) := hd 7 (by decide)
    have d17 : v 17 = (Value.pointer (some ⟨pp.block, pp.off + 2, none⟩)) := hd 17 (by decide)
    have e56 := (Reg.gfr_eval (ops := (Reg.opsOf Try.f3 13)) (a0 := a0) (v := v) (L := [17, 7]) 56 17 (by kernel_rfl) (by rw [hsz]; omega)).trans d17
    have e46 := (Reg.gfr_eval (ops := (Reg.opsOf Try.f3 13)) (a0 := a0) (v := v) (L := [17, 7]) 46 7 (by kernel_rfl) (by rw [hsz]; omega)).trans d7
    refine ⟨Reg.wanted_of rfl (by kernel_rfl) e46, ?_⟩
    generalize Reg.gfr (Reg.opsOf Try.f3 13) a0 v [17, 7] = G at e56 ⊢
    generalize hρ : G.eval = ρ at e56
    have hρ' : G.eval = ρ := hρ
    refine Reg.go_run (Value.int IntKind.u64 (on : Int)) W ?_ ?_
    · rw [hρ']; simp [execOp, go_sem, e56, CN W hb]
    · exact ⟨Below.refl _ _, rfl⟩
set_option maxHeartbeats 4000000 in
set_option maxRecDepth 20000 in
theorem lw13b_h19 :
    Reg.OpOKB Try.prog (Reg.opsOf Try.f3 13) [0, 1, 2, 3, 4, 5] a0 w0 (lw13bR ad pp nn cl k on gg) 19 := by
    refine Reg.op_okB2 (fun af => { dst := some 58, op := Op.call { callee := Callee.value (Operand.func 12), args := #[Operand.tmp 57], argTypes := #[28] }, type := 24, pos := "law.go:38", after := af, guard := some (7, true) }) #[{ on := 18, ground := Ground.data }, { on := 13, ground := Ground.chain }, { on := 7, ground := Ground.guard }] (by kernel_rfl) [18, 13, 7] (by kernel_rfl) fun af v W hb hd => ?_
    have d7 : v 7 = (Value.bool true) := hd 7 (by decide)
    have d18 : v 18 = (Value.int IntKind.u64 (on : Int)) := hd 18 (by decide)
    have e57 := (Reg.gfr_eval (ops := (Reg.opsOf Try.f3 13)) (a0 := a0) (v := v) (L := [18, 13, 7]) 57 18 (by kernel_rfl) (by rw [hsz]; omega)).trans d18
    have e46 := (Reg.gfr_eval (ops := (Reg.opsOf Try.f3 13)) (a0 := a0) (v := v) (L := [18, 13, 7]) 46 7 (by kernel_rfl) (by rw [hsz]; omega)).trans d7
    refine ⟨Reg.wanted_of rfl (by kernel_rfl) e46, ?_⟩
    have eF : ∀ f, (Reg.gfr (Reg.opsOf Try.f3 13) a0 v [18, 13, 7]).eval (.func f) = .func (.func f) #[] #[] := fun _ => rfl
    generalize Reg.gfr (Reg.opsOf Try.f3 13) a0 v [18, 13, 7] = G at e57 eF ⊢
    generalize hρ : G.eval = ρ at e57 eF
    have hρ' : G.eval = ρ := hρ
    refine Reg.go_call 12 #[(Value.int IntKind.u64 (on : Int))] (by rw [hρ']; simp [execOp, go_sem, e57, eF]) ((rnumber_any on hon W).mono fun e w' he => ?_)
    obtain ⟨v_, rfl, hn_⟩ := he
    obtain ⟨A_, c_, rfl, _⟩ := RdC.of_own hn_.1
    exact ⟨_, rfl, hn_.2, ⟨A_, c_, rfl⟩⟩
set_option maxHeartbeats 4000000 in
set_option maxRecDepth 20000 in
theorem lw13b_h20 :
    Reg.OpOKB Try.prog (Reg.opsOf Try.f3 13) [0, 1, 2, 3, 4, 5] a0 w0 (lw13bR ad pp nn cl k on gg) 20 := by
    refine Reg.op_okB2 (fun af => { dst := some 59, op := Op.call { callee := Callee.builtin Builtin.len, args := #[Operand.tmp 58], argTypes := #[24] }, type := 3, pos := "law.go:38", after := af, guard := some (7, true) }) #[{ on := 19, ground := Ground.data }, { on := 7, ground := Ground.guard }] (by kernel_rfl) [19, 7] (by kernel_rfl) fun af v W hb hd => ?_
    have d7 : v 7 = (Value.bool true) := hd 7 (by decide)
    have d19 : ((fun u_ _ => ∃ A_ c_, u_ = Value.slice A_ (numB on).length c_)) (v 19) W := hd 19 (by decide)
    have e58 := Reg.gfr_eval (ops := (Reg.opsOf Try.f3 13)) (a0 := a0) (v := v) (L := [19, 7]) 58 19 (by kernel_rfl) (by rw [hsz]; omega)
    have e46 := (Reg.gfr_eval (ops := (Reg.opsOf Try.f3 13)) (a0 := a0) (v := v) (L := [19, 7]) 46 7 (by kernel_rfl) (by rw [hsz]; omega)).trans d7
    refine ⟨Reg.wanted_of rfl (by kernel_rfl) e46, ?_⟩
    generalize Reg.gfr (Reg.opsOf Try.f3 13) a0 v [19, 7] = G at e58 ⊢
    generalize hρ : G.eval = ρ at e58
    have hρ' : G.eval = ρ := hρ
    obtain ⟨A_, c_, hv_⟩ := d19
    rw [hv_] at e58
    refine Reg.go_run _ W (by rw [hρ']; simp [execOp, go_sem, e58]) ⟨Below.refl _ _, rfl⟩
set_option maxHeartbeats 4000000 in
set_option maxRecDepth 20000 in
theorem lw13b_h21 :
    Reg.OpOKB Try.prog (Reg.opsOf Try.f3 13) [0, 1, 2, 3, 4, 5] a0 w0 (lw13bR ad pp nn cl k on gg) 21 := by
    refine Reg.op_okB2 (fun af => { dst := some 60, op := Op.binOp BinOp.eql 3 (Operand.tmp 52) (Operand.tmp 59) 3, type := 4, pos := "law.go:38", after := af, guard := some (7, true) }) #[{ on := 13, ground := Ground.data }, { on := 20, ground := Ground.data }, { on := 7, ground := Ground.guard }] (by kernel_rfl) [13, 20, 7] (by kernel_rfl) fun af v W hb hd => ?_
    have d7 : v 7 = (Value.bool true) := hd 7 (by decide)
    have d13 : v 13 = (Value.int IntKind.i64 ((numB on).length : Int)) := hd 13 (by decide)
    have d20 : v 20 = (Value.int IntKind.i64 ((numB on).length : Int)) := hd 20 (by decide)
    have e52 := (Reg.gfr_eval (ops := (Reg.opsOf Try.f3 13)) (a0 := a0) (v := v) (L := [13, 20, 7]) 52 13 (by kernel_rfl) (by rw [hsz]; omega)).trans d13
    have e59 := (Reg.gfr_eval (ops := (Reg.opsOf Try.f3 13)) (a0 := a0) (v := v) (L := [13, 20, 7]) 59 20 (by kernel_rfl) (by rw [hsz]; omega)).trans d20
    have e46 := (Reg.gfr_eval (ops := (Reg.opsOf Try.f3 13)) (a0 := a0) (v := v) (L := [13, 20, 7]) 46 7 (by kernel_rfl) (by rw [hsz]; omega)).trans d7
    refine ⟨Reg.wanted_of rfl (by kernel_rfl) e46, ?_⟩
    generalize Reg.gfr (Reg.opsOf Try.f3 13) a0 v [13, 20, 7] = G at e52 e59 ⊢
    generalize hρ : G.eval = ρ at e52 e59
    have hρ' : G.eval = ρ := hρ
    refine Reg.go_run (Value.bool true) W ?_ ?_
    · rw [hρ']; simp [execOp, go_sem, e52, e59]
    · exact ⟨Below.refl _ _, rfl⟩
set_option maxHeartbeats 4000000 in
set_option maxRecDepth 20000 in
theorem lw13b_h22 :
    Reg.OpOKB Try.prog (Reg.opsOf Try.f3 13) [0, 1, 2, 3, 4, 5] a0 w0 (lw13bR ad pp nn cl k on gg) 22 := by
    refine Reg.op_okB2 (fun af => { dst := some 61, op := Op.pick (Operand.tmp 46) (Operand.tmp 60) (Operand.const (Value.bool false)), type := 4, pos := "law.go:38", after := af, guard := none }) #[{ on := 7, ground := Ground.data }, { on := 21, ground := Ground.data }] (by kernel_rfl) [7, 21] (by kernel_rfl) fun af v W hb hd => ?_
    have d7 : v 7 = (Value.bool true) := hd 7 (by decide)
    have d21 : v 21 = (Value.bool true) := hd 21 (by decide)
    have e46 := (Reg.gfr_eval (ops := (Reg.opsOf Try.f3 13)) (a0 := a0) (v := v) (L := [7, 21]) 46 7 (by kernel_rfl) (by rw [hsz]; omega)).trans d7
    have e60 := (Reg.gfr_eval (ops := (Reg.opsOf Try.f3 13)) (a0 := a0) (v := v) (L := [7, 21]) 60 21 (by kernel_rfl) (by rw [hsz]; omega)).trans d21
    refine ⟨Reg.wanted_none rfl, ?_⟩
    have eC : ∀ x, (Reg.gfr (Reg.opsOf Try.f3 13) a0 v [7, 21]).eval (.const x) = x := fun _ => rfl
    generalize Reg.gfr (Reg.opsOf Try.f3 13) a0 v [7, 21] = G at e46 e60 eC ⊢
    generalize hρ : G.eval = ρ at e46 e60 eC
    have hρ' : G.eval = ρ := hρ
    refine Reg.go_run (Value.bool true) W ?_ ?_
    · rw [hρ']; simp [execOp, go_sem, e46, e60, eC]
    · exact ⟨Below.refl _ _, rfl⟩
set_option maxHeartbeats 4000000 in
set_option maxRecDepth 20000 in
theorem lw13b_h23 :
    Reg.OpOKB Try.prog (Reg.opsOf Try.f3 13) [0, 1, 2, 3, 4, 5] a0 w0 (lw13bR ad pp nn cl k on gg) 23 := by
    refine Reg.op_okB2 (fun af => { dst := some 7, op := Op.assign (Operand.tmp 61), type := 4, pos := "law.go:38", after := af, guard := none }) #[{ on := 22, ground := Ground.data }, { on := 19, ground := Ground.chain }, { on := 0, ground := Ground.phase }, { on := 1, ground := Ground.phase }, { on := 2, ground := Ground.phase }, { on := 3, ground := Ground.phase }, { on := 4, ground := Ground.phase }, { on := 5, ground := Ground.phase }, { on := 6, ground := Ground.phase }, { on := 7, ground := Ground.phase }, { on := 8, ground := Ground.phase }, { on := 9, ground := Ground.phase }, { on := 10, ground := Ground.phase }, { on := 11, ground := Ground.phase }, { on := 12, ground := Ground.phase }, { on := 13, ground := Ground.phase }, { on := 14, ground := Ground.phase }, { on := 15, ground := Ground.phase }, { on := 16, ground := Ground.phase }, { on := 17, ground := Ground.phase }, { on := 18, ground := Ground.phase }, { on := 19, ground := Ground.phase }, { on := 20, ground := Ground.phase }, { on := 21, ground := Ground.phase }, { on := 22, ground := Ground.phase }] (by kernel_rfl) [22, 19, 6, 7, 8, 9, 10, 11, 12, 13, 14, 15, 16, 17, 18, 19, 20, 21, 22] (by kernel_rfl) fun af v W hb hd => ?_
    have d22 : v 22 = (Value.bool true) := hd 22 (by decide)
    have e61 := (Reg.gfr_eval (ops := (Reg.opsOf Try.f3 13)) (a0 := a0) (v := v) (L := [22, 19, 6, 7, 8, 9, 10, 11, 12, 13, 14, 15, 16, 17, 18, 19, 20, 21, 22]) 61 22 (by kernel_rfl) (by rw [hsz]; omega)).trans d22
    refine ⟨Reg.wanted_none rfl, ?_⟩
    generalize Reg.gfr (Reg.opsOf Try.f3 13) a0 v [22, 19, 6, 7, 8, 9, 10, 11, 12, 13, 14, 15, 16, 17, 18, 19, 20, 21, 22] = G at e61 ⊢
    generalize hρ : G.eval = ρ at e61
    have hρ' : G.eval = ρ := hρ
    refine Reg.go_run (Value.bool true) W ?_ ?_
    · rw [hρ']; simp [execOp, go_sem, e61]
    · exact ⟨Below.refl _ _, rfl⟩
end
set_option maxHeartbeats 4000000 in
set_option maxRecDepth 20000 in
theorem lw13b (ad pp : Addr) (nn cl k on gg : Nat) (w0 : World) {s1 s2 s4 s6 s7 s8 s9 s10 s11 s12 s13 s14 s15 s16 s17 s18 s19 s20 s21 s22 s23 s24 s25 s26 s27 s28 s29 s30 s31 s32 s33 s34 s35 s36 s37 s38 s39 s40 s41 s42 s43 s45 s46 s47 s48 s49 s50 s51 s52 s53 s54 s55 s56 s57 s58 s59 s60 s61 s62 s63 s64 s65 s66 s67 s68 s69 s70 s71 s72 s73 s74 s75 s76 s77 s78 s79 s80 s81 s82 s83 s84 s85 s86 s87 s88 s89 s90 s91 s92 s93 s94 s95 s96 s97 s98 s99 s100 s101 s102 s103 s104 s105 s106 s107 s108 s109 s110 s111 s112 s113 s114 s115 s116 s117 s118 s119 s120 s121 s122 s123 s124 s125 s126 s127 s128 s129 s130 s131 s132 s133 s134 s135 : Value}
    (hkl : k < nn) (hpp : ad.add (k * 4) = pp) (hon : on < 18446744073709551616)
    (qp : ∀ (W : World) (b : Nat), (binOp .eql 32 (.pointer (some ⟨b, 0, none⟩)) (.pointer (some ⟨b, 0, none⟩))).run Try.prog W = .ok (.bool true) W)
    (CN : ∀ W, Below w0.heap.size w0 W → W.cell? ⟨pp.block, pp.off + 2, none⟩ = some (Value.int IntKind.u64 (on : Int)))
    {Q : Exit → Act → World → Prop}
    (hend : ∀ (w : World) (r58 : Value), Below w0.heap.size w0 w → Q .normal { tmps := #[(Value.slice (some ad) nn cl), s1, s2, (Value.pointer (some ⟨gg, 0, none⟩)), s4, (Value.int IntKind.i64 (k : Int)), s6, (Value.bool true), s8, s9, s10, s11, s12, s13, s14, s15, s16, s17, s18, s19, s20, s21, s22, s23, s24, s25, s26, s27, s28, s29, s30, s31, s32, s33, s34, s35, s36, s37, s38, s39, s40, s41, s42, s43, (Value.pointer (some ⟨gg, 0, none⟩)), (Value.bool true), (Value.bool true), (Value.slice (some ad) nn cl), (Value.int IntKind.i64 (k : Int)), (Value.pointer (some pp)), (Value.pointer (some ⟨pp.block, pp.off + 2, none⟩)), (Value.int IntKind.u64 (on : Int)), (Value.int IntKind.i64 ((numB on).length : Int)), (Value.slice (some ad) nn cl), (Value.int IntKind.i64 (k : Int)), (Value.pointer (some pp)), (Value.pointer (some ⟨pp.block, pp.off + 2, none⟩)), (Value.int IntKind.u64 (on : Int)), r58, (Value.int IntKind.i64 ((numB on).length : Int)), (Value.bool true), (Value.bool true), s62, s63, s64, s65, s66, s67, s68, s69, s70, s71, s72, s73, s74, s75, s76, s77, s78, s79, s80, s81, s82, s83, s84, s85, s86, s87, s88, s89, s90, s91, s92, s93, s94, s95, s96, s97, s98, s99, s100, s101, s102, s103, s104, s105, s106, s107, s108, s109, s110, s111, s112, s113, s114, s115, s116, s117, s118, s119, s120, s121, s122, s123, s124, s125, s126, s127, s128, s129, s130, s131, s132, s133, s134, s135], defers := [] } w) :
    ∀ fuel, Reg.cnt (List.range (Reg.opsOf Try.f3 13).size) (Reg.lst (Reg.opsOf Try.f3 13) [0, 1, 2, 3, 4, 5]) ≤ fuel → wpAny Try.prog .any (Reg.opsOf Try.f3 13) Q fuel (Reg.lst (Reg.opsOf Try.f3 13) [0, 1, 2, 3, 4, 5]) { tmps := #[(Value.slice (some ad) nn cl), s1, s2, (Value.pointer (some ⟨gg, 0, none⟩)), s4, (Value.int IntKind.i64 (k : Int)), s6, s7, s8, s9, s10, s11, s12, s13, s14, s15, s16, s17, s18, s19, s20, s21, s22, s23, s24, s25, s26, s27, s28, s29, s30, s31, s32, s33, s34, s35, s36, s37, s38, s39, s40, s41, s42, s43, (Value.pointer (some ⟨gg, 0, none⟩)), s45, s46, s47, s48, s49, s50, s51, s52, s53, s54, s55, s56, s57, s58, s59, s60, s61, s62, s63, s64, s65, s66, s67, s68, s69, s70, s71, s72, s73, s74, s75, s76, s77, s78, s79, s80, s81, s82, s83, s84, s85, s86, s87, s88, s89, s90, s91, s92, s93, s94, s95, s96, s97, s98, s99, s100, s101, s102, s103, s104, s105, s106, s107, s108, s109, s110, s111, s112, s113, s114, s115, s116, s117, s118, s119, s120, s121, s122, s123, s124, s125, s126, s127, s128, s129, s130, s131, s132, s133, s134, s135], defers := [] } w0 := by
  obtain ⟨a0, ha0⟩ : ∃ a0 : Act, a0 = { tmps := #[(Value.slice (some ad) nn cl), s1, s2, (Value.pointer (some ⟨gg, 0, none⟩)), s4, (Value.int IntKind.i64 (k : Int)), s6, s7, s8, s9, s10, s11, s12, s13, s14, s15, s16, s17, s18, s19, s20, s21, s22, s23, s24, s25, s26, s27, s28, s29, s30, s31, s32, s33, s34, s35, s36, s37, s38, s39, s40, s41, s42, s43, (Value.pointer (some ⟨gg, 0, none⟩)), s45, s46, s47, s48, s49, s50, s51, s52, s53, s54, s55, s56, s57, s58, s59, s60, s61, s62, s63, s64, s65, s66, s67, s68, s69, s70, s71, s72, s73, s74, s75, s76, s77, s78, s79, s80, s81, s82, s83, s84, s85, s86, s87, s88, s89, s90, s91, s92, s93, s94, s95, s96, s97, s98, s99, s100, s101, s102, s103, s104, s105, s106, s107, s108, s109, s110, s111, s112, s113, s114, s115, s116, s117, s118, s119, s120, s121, s122, s123, s124, s125, s126, s127, s128, s129, s130, s131, s132, s133, s134, s135], defers := [] } := ⟨_, rfl⟩
  have hfin : ∀ v : Nat → Value, Reg.gfr (Reg.opsOf Try.f3 13) a0 v [6, 7, 8, 9, 10, 11, 12, 13, 14, 15, 16, 17, 18, 19, 20, 21, 22, 23] = { tmps := #[(Value.slice (some ad) nn cl), s1, s2, (Value.pointer (some ⟨gg, 0, none⟩)), s4, (Value.int IntKind.i64 (k : Int)), s6, v 23, s8, s9, s10, s11, s12, s13, s14, s15, s16, s17, s18, s19, s20, s21, s22, s23, s24, s25, s26, s27, s28, s29, s30, s31, s32, s33, s34, s35, s36, s37, s38, s39, s40, s41, s42, s43, (Value.pointer (some ⟨gg, 0, none⟩)), v 6, v 7, v 8, v 9, v 10, v 11, v 12, v 13, v 14, v 15, v 16, v 17, v 18, v 19, v 20, v 21, v 22, s62, s63, s64, s65, s66, s67, s68, s69, s70, s71, s72, s73, s74, s75, s76, s77, s78, s79, s80, s81, s82, s83, s84, s85, s86, s87, s88, s89, s90, s91, s92, s93, s94, s95, s96, s97, s98, s99, s100, s101, s102, s103, s104, s105, s106, s107, s108, s109, s110, s111, s112, s113, s114, s115, s116, s117, s118, s119, s120, s121, s122, s123, s124, s125, s126, s127, s128, s129, s130, s131, s132, s133, s134, s135], defers := [] } := fun v => by rw [ha0]; kernel_rfl
  rw [← ha0]
  have i0 : a0.eval (.tmp 0) = (Value.slice (some ad) nn cl) := by rw [ha0]; rfl
  have i3 : a0.eval (.tmp 3) = (Value.pointer (some ⟨gg, 0, none⟩)) := by rw [ha0]; rfl
  have i5 : a0.eval (.tmp 5) = (Value.int IntKind.i64 (k : Int)) := by rw [ha0]; rfl
  have i44 : a0.eval (.tmp 44) = (Value.pointer (some ⟨gg, 0, none⟩)) := by rw [ha0]; rfl
  have i39 : a0.eval (.tmp 39) = s39 := by rw [ha0]; rfl
  have i40 : a0.eval (.tmp 40) = s40 := by rw [ha0]; rfl
  have i41 : a0.eval (.tmp 41) = s41 := by rw [ha0]; rfl
  have i42 : a0.eval (.tmp 42) = s42 := by rw [ha0]; rfl
  have i43 : a0.eval (.tmp 43) = s43 := by rw [ha0]; rfl
  have hsz : a0.tmps.size = 136 := by rw [ha0]; rfl
  clear ha0
  have hn : (Reg.opsOf Try.f3 13).size = 24 := by kernel_rfl
  have h6 := lw13b_h6 ad pp nn cl k on gg w0 a0 s39 s40 s41 s42 s43 hkl hpp hon qp CN i0 i3 i5 i44 i39 i40 i41 i42 i43 hsz
  have h7 := lw13b_h7 ad pp nn cl k on gg w0 a0 s39 s40 s41 s42 s43 hkl hpp hon qp CN i0 i3 i5 i44 i39 i40 i41 i42 i43 hsz
  have h8 := lw13b_h8 ad pp nn cl k on gg w0 a0 s39 s40 s41 s42 s43 hkl hpp hon qp CN i0 i3 i5 i44 i39 i40 i41 i42 i43 hsz
  have h9 := lw13b_h9 ad pp nn cl k on gg w0 a0 s39 s40 s41 s42 s43 hkl hpp hon qp CN i0 i3 i5 i44 i39 i40 i41 i42 i43 hsz
  have h10 := lw13b_h10 ad pp nn cl k on gg w0 a0 s39 s40 s41 s42 s43 hkl hpp hon qp CN i0 i3 i5 i44 i39 i40 i41 i42 i43 hsz
  have h11 := lw13b_h11 ad pp nn cl k on gg w0 a0 s39 s40 s41 s42 s43 hkl hpp hon qp CN i0 i3 i5 i44 i39 i40 i41 i42 i43 hsz
  have h12 := lw13b_h12 ad pp nn cl k on gg w0 a0 s39 s40 s41 s42 s43 hkl hpp hon qp CN i0 i3 i5 i44 i39 i40 i41 i42 i43 hsz
  have h13 := lw13b_h13 ad pp nn cl k on gg w0 a0 s39 s40 s41 s42 s43 hkl hpp hon qp CN i0 i3 i5 i44 i39 i40 i41 i42 i43 hsz
  have h14 := lw13b_h14 ad pp nn cl k on gg w0 a0 s39 s40 s41 s42 s43 hkl hpp hon qp CN i0 i3 i5 i44 i39 i40 i41 i42 i43 hsz
  have h15 := lw13b_h15 ad pp nn cl k on gg w0 a0 s39 s40 s41 s42 s43 hkl hpp hon qp CN i0 i3 i5 i44 i39 i40 i41 i42 i43 hsz
  have h16 := lw13b_h16 ad pp nn cl k on gg w0 a0 s39 s40 s41 s42 s43 hkl hpp hon qp CN i0 i3 i5 i44 i39 i40 i41 i42 i43 hsz
  have h17 := lw13b_h17 ad pp nn cl k on gg w0 a0 s39 s40 s41 s42 s43 hkl hpp hon qp CN i0 i3 i5 i44 i39 i40 i41 i42 i43 hsz
  have h18 := lw13b_h18 ad pp nn cl k on gg w0 a0 s39 s40 s41 s42 s43 hkl hpp hon qp CN i0 i3 i5 i44 i39 i40 i41 i42 i43 hsz
  have h19 := lw13b_h19 ad pp nn cl k on gg w0 a0 s39 s40 s41 s42 s43 hkl hpp hon qp CN i0 i3 i5 i44 i39 i40 i41 i42 i43 hsz
  have h20 := lw13b_h20 ad pp nn cl k on gg w0 a0 s39 s40 s41 s42 s43 hkl hpp hon qp CN i0 i3 i5 i44 i39 i40 i41 i42 i43 hsz
  have h21 := lw13b_h21 ad pp nn cl k on gg w0 a0 s39 s40 s41 s42 s43 hkl hpp hon qp CN i0 i3 i5 i44 i39 i40 i41 i42 i43 hsz
  have h22 := lw13b_h22 ad pp nn cl k on gg w0 a0 s39 s40 s41 s42 s43 hkl hpp hon qp CN i0 i3 i5 i44 i39 i40 i41 i42 i43 hsz
  have h23 := lw13b_h23 ad pp nn cl k on gg w0 a0 s39 s40 s41 s42 s43 hkl hpp hon qp CN i0 i3 i5 i44 i39 i40 i41 i42 i43 hsz
  refine fun fuel hf => Reg.phase_all [0, 1, 2, 3, 4, 5] [6, 7, 8, 9, 10, 11, 12, 13, 14, 15, 16, 17, 18, 19, 20, 21, 22, 23] (lw13bR ad pp nn cl k on gg) (by rw [hsz]; kernel_rfl) (by kernel_rfl) (lw13b_stable ad pp nn cl k on gg) (fun i hi => ?_) (fun v w hb hR fuel hf => ?_) fuel hf
  · simp only [List.mem_cons, List.not_mem_nil, or_false] at hi
    rcases hi with rfl | rfl | rfl | rfl | rfl | rfl | rfl | rfl | rfl | rfl | rfl | rfl | rfl | rfl | rfl | rfl | rfl | rfl
    · exact h6
    · exact h7
    · exact h8
    · exact h9
    · exact h10
    · exact h11
    · exact h12
    · exact h13
    · exact h14
    · exact h15
    · exact h16
    · exact h17
    · exact h18
    · exact h19
    · exact h20
    · exact h21
    · exact h22
    · exact h23
  · have v6 : v 6 = (Value.bool true) := hR 6 (by decide)
    have v7 : v 7 = (Value.bool true) := hR 7 (by decide)
    have v8 : v 8 = (Value.slice (some ad) nn cl) := hR 8 (by decide)
    have v9 : v 9 = (Value.int IntKind.i64 (k : Int)) := hR 9 (by decide)
    have v10 : v 10 = (Value.pointer (some pp)) := hR 10 (by decide)
    have v11 : v 11 = (Value.pointer (some ⟨pp.block, pp.off + 2, none⟩)) := hR 11 (by decide)
    have v12 : v 12 = (Value.int IntKind.u64 (on : Int)) := hR 12 (by decide)
    have v13 : v 13 = (Value.int IntKind.i64 ((numB on).length : Int)) := hR 13 (by decide)
    have v14 : v 14 = (Value.slice (some ad) nn cl) := hR 14 (by decide)
    have v15 : v 15 = (Value.int IntKind.i64 (k : Int)) := hR 15 (by decide)
    have v16 : v 16 = (Value.pointer (some pp)) := hR 16 (by decide)
    have v17 : v 17 = (Value.pointer (some ⟨pp.block, pp.off + 2, none⟩)) := hR 17 (by decide)
    have v18 : v 18 = (Value.int IntKind.u64 (on : Int)) := hR 18 (by decide)
    have v20 : v 20 = (Value.int IntKind.i64 ((numB on).length : Int)) := hR 20 (by decide)
    have v21 : v 21 = (Value.bool true) := hR 21 (by decide)
    have v22 : v 22 = (Value.bool true) := hR 22 (by decide)
    have v23 : v 23 = (Value.bool true) := hR 23 (by decide)
    rw [hfin v, v6, v7, v8, v9, v10, v11, v12, v13, v14, v15, v16, v17, v18, v20, v21, v22, v23]
    exact Reg.phase_end _ (by kernel_rfl) (hend w (v 19) hb ) _
end Go.Proofs.Ytokfenogiajcgaa
