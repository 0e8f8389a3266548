/- Texts of this proof, laid into one: SetM, SetGd. -/
import Derived.Test.YtcdnbidenaljlaaDoorMHashNames24
import Derived.Sort.OwnSorted
import Derived.Test.YtcdnbidenaljlaaDoorMHashNames2
import Derived.Test.YtcdnbidenaljlaaDoorMHashNames12
/- slices.SortFunc at a row of ids of its own. -/
namespace Go.Proofs.YtcdnbidenaljlaaDoor
open Go.RowKit Go.Sort Go.Lib Go.Shelf

def valId (x : Id32) : List UInt8 := x.1
def mkId (x : List UInt8) (h : x.length = 32) : Id32 := ⟨x, h⟩
theorem valId_len (x : Id32) : (valId x).length = 32 := x.2
theorem flat_ids (d : Array Id32) : (flatK encId 32 d).toList = idsC (d.toList.map valId) := by
  have hl : (idsC (d.toList.map valId)).length = d.size * 32 := by
    rw [idsC_length]
    · simp
    · intro x hx
      obtain ⟨y, _, rfl⟩ := List.mem_map.1 hx
      exact valId_len y
  apply List.ext_getElem?
  intro t
  by_cases ht : t < d.size * 32
  · have h1 := get_flatK encId 32 d t ht
    have hs : t < (flatK encId 32 d).size := by rw [size_flatK]; exact ht
    have hq : t / 32 < d.size := by omega
    have hr : t % 32 < 32 := Nat.mod_lt _ (by omega)
    have h2 := idsC_get (d.toList.map valId) (fun x hx => by obtain ⟨y, _, rfl⟩ := List.mem_map.1 hx; exact valId_len y) (t / 32) (by simpa using hq) (t % 32) hr
    rw [show t / 32 * 32 + t % 32 = t by omega] at h2
    rw [h2, Array.getElem?_toList, Array.getElem?_eq_getElem hs]
    rw [getElem!_pos _ t hs] at h1
    rw [h1, getElem!_pos d (t / 32) hq]
    have h3 : t % 32 < (encId d[t / 32]).length := by rw [encId_len]; exact hr
    rw [getElem!_pos (encId d[t / 32]) (t % 32) h3]
    simp only [List.getElem_map, Array.getElem_toList]
    exact (List.getElem?_eq_getElem h3).symm
  · rw [List.getElem?_eq_none (by rw [Array.length_toList, size_flatK]; omega), List.getElem?_eq_none (by omega)]

/-- A list of ids as an array of the type. -/
def toId (L : List (List UInt8)) (h : ∀ x ∈ L, x.length = 32) : Array Id32 := (L.attach.map fun x => mkId x.1 (h x.1 x.2)).toArray
theorem toId_list (L : List (List UInt8)) (h : ∀ x ∈ L, x.length = 32) : (toId L h).toList.map valId = L := by
  unfold toId
  rw [List.map_map]
  exact List.attach_map_subtype_val L
theorem toId_size (L : List (List UInt8)) (h : ∀ x ∈ L, x.length = 32) : (toId L h).size = L.length := by
  unfold toId
  rw [List.size_toArray, List.length_map, List.length_attach]
/-- Not falling. -/
def Asc (L : List (List UInt8)) : Prop := ∀ i j (hi : i < L.length) (hj : j < L.length), i < j → ¬ Lib.compareBytes L[j] L[i] < 0
theorem cell_row {w : World} {g : Nat} {t : TypeId} {cur : Array Value} (h : w.heap[g]? = some (.cells cur t (0, 0))) (j : Nat) : w.cell? ⟨g, j, none⟩ = cur[j]? := cell_of_row _ _ _ _ _ _ h
theorem sortrow_any (g cap : Nat) (L : List (List UInt8)) (h32 : ∀ x ∈ L, x.length = 32) (hL : L.length ≤ 1000000) (T : List Value) (w : World) (hg : w.heap[g]? = some (.cells (idsC L ++ T).toArray 25 (0, 0))) :
    Calls Tryd.prog 32 #[.slice (some ⟨g, 0, none⟩) L.length cap, .func (.func 16) #[] #[]] w fun e w' =>
      e = .returned (.tuple #[]) ∧ ∃ L', L'.Perm L ∧ Asc L' ∧ w'.heap[g]? = some (.cells (idsC L' ++ T).toArray 25 (0, 0)) ∧ w.grownBy w' (some g) := by
  have hlt : g < w.heap.size := (Array.getElem?_eq_some_iff.1 hg).1
  have hsz := toId_size L h32
  have hH : HoldsK encId 32 w g 0 (toId L h32) := fun j hj => by
    rw [size_flatK] at hj
    refine ⟨?_, by simp [World.frozen?, hg]⟩
    rw [Nat.zero_add, cell_row hg, getElem!_pos _ j (by rw [size_flatK]; exact hj)]
    have h1 := congrArg (fun l => l[j]?) (flat_ids (toId L h32))
    simp only [toId_list] at h1
    rw [List.getElem?_toArray, List.getElem?_append_left (by rw [idsC_length L h32]; omega), ← h1, Array.getElem?_toList]
    exact Array.getElem?_eq_getElem (by rw [size_flatK]; exact hj)
  have h := sortids_any g 0 cap (toId L h32) w hH hlt (by omega)
  rw [hsz] at h
  refine h.mono ?_
  rintro e w' ⟨rfl, d', n, os, hp, hs, rfl⟩
  have hds : d'.size = L.length := by rw [hp.1, hsz]
  have hperm : (d'.toList.map valId).Perm L := by
    have h1 := hp.2.2
    have e1 : d'.extract 0 L.length = d' := by rw [← hds]; simp
    have e2 : (toId L h32).extract 0 L.length = toId L h32 := by rw [← hsz]; simp
    rw [e1, e2] at h1
    have h2 := h1.map valId
    rwa [toId_list] at h2
  refine ⟨rfl, d'.toList.map valId, hperm, ?_, ?_, ?_⟩
  · intro i j hi hj hij hlt
    have hi' : i < d'.size := by simpa using hi
    have hj' : j < d'.size := by simpa using hj
    have := hs i j (Nat.zero_le _) hij (by omega)
    rw [getElem!_pos d' i hi', getElem!_pos d' j hj', ltId] at this
    simp only [List.getElem_map, Array.getElem_toList] at hlt
    exact absurd hlt (of_decide_eq_false this)
  · show (grow (putRow id (Sort.ahead w n) g 0 (flatK encId 32 d')) os).heap[g]? = _
    rw [heap_grow_old _ _ (by simpa using hlt)]
    have hcl : (idsC (d'.toList.map valId)).length = (idsC L).length := by
      rw [idsC_length _ h32, idsC_length]
      · simp [hds]
      · intro x hx
        exact h32 x (hperm.mem_iff.1 hx)
    have : putCells id 0 (flatK encId 32 d') (idsC L ++ T).toArray = (idsC (d'.toList.map valId) ++ T).toArray := by
      apply Array.ext_getElem?
      intro t
      have hfs : (flatK encId 32 d').size = (idsC L).length := by rw [size_flatK, hds, idsC_length L h32]
      rw [← flat_ids] at hcl ⊢
      simp only [putCells, Array.getElem?_mapIdx, Nat.zero_le, true_and, Nat.zero_add, Nat.sub_zero, List.getElem?_toArray]
      by_cases ht : t < (flatK encId 32 d').size
      · rw [List.getElem?_append_left (by omega), List.getElem?_append_left (by rw [Array.length_toList]; exact ht), List.getElem?_eq_getElem (by omega), Array.getElem?_toList, Array.getElem?_eq_getElem ht]
        have ht2 : t < d'.size * 32 := by rw [size_flatK] at ht; exact ht
        simp [ht2, getElem!_pos (flatK encId 32 d') t ht]
      · rw [List.getElem?_append_right (by omega), List.getElem?_append_right (by rw [Array.length_toList]; omega), Array.length_toList, hfs]
        have ht2 : ¬ t < d'.size * 32 := by rw [size_flatK] at ht; exact ht
        have e : (idsC L).length = d'.size * 32 := by rw [← hfs, size_flatK]
        simp [e, ht2]
    simp [putRow, mapBlock, Sort.ahead, Array.getElem?_modify, hg, onCells, this]
  · refine ⟨rfl, rfl, rfl, by simp [sortWorldK, putRowK], fun k hk hne => ?_⟩
    show (grow (putRow id (Sort.ahead w n) g 0 (flatK encId 32 d')) os).heap[k]? = _
    rw [heap_grow_old _ _ (by simpa using hk)]
    have : g ≠ k := fun e => hne (by rw [e])
    simp [putRow, mapBlock, Sort.ahead, Array.getElem?_modify, this]
end Go.Proofs.YtcdnbidenaljlaaDoor

/- Regions that draw their order: their obligations (printed by regen2.py). -/
namespace Go.Proofs.YtcdnbidenaljlaaDoor
open Go.RowKit
set_option linter.unusedVariables false
set_option linter.unusedSimpArgs false
set_option linter.unusedSectionVars false
def cm6R (g o n c h kq : Nat) (S S2 : List Value) (bo : Bool) : Nat → Value → World → Prop
  | 0 => fun x_ _ => x_ = (Value.slice (some ⟨g, o, none⟩) n c)
  | 1 => fun x_ _ => x_ = (Value.int IntKind.i64 (kq : Int))
  | 2 => fun x_ _ => x_ = (Value.pointer (some ⟨g, o + kq * 32, none⟩))
  | 3 => fun x_ _ => x_ = (Value.agg S.toArray)
  | 4 => fun x_ _ => x_ = (Value.slice (some ⟨g, o, none⟩) n c)
  | 5 => fun x_ _ => x_ = (Value.int IntKind.i64 (kq : Int))
  | 6 => fun x_ _ => x_ = (Value.int IntKind.i64 (h : Int))
  | 7 => fun x_ _ => x_ = (Value.pointer (some ⟨g, o + h * 32, none⟩))
  | 8 => fun x_ _ => x_ = (Value.agg S2.toArray)
  | 9 => fun x_ _ => x_ = (Value.bool bo)
  | _ => fun _ _ => True
theorem cm6_stable (g o n c h kq : Nat) (S S2 : List Value) (bo : Bool) : ∀ i_ u_ w_ w_', (cm6R g o n c h kq S S2 bo) i_ u_ w_ → Below w_.heap.size w_ w_' → (cm6R g o n c h kq S S2 bo) i_ u_ w_' := fun i_ u_ w_ w_' h_ hb_ => by
  match i_, h_ with
  | 0, h_ => exact h_
  | 1, h_ => exact h_
  | 2, h_ => exact h_
  | 3, h_ => exact h_
  | 4, h_ => exact h_
  | 5, h_ => exact h_
  | 6, h_ => exact h_
  | 7, h_ => exact h_
  | 8, h_ => exact h_
  | 9, h_ => exact h_
  | (_ + 10), _ => trivial
section
variable (g o n c h kq : Nat) (S S2 : List Value) (bo : Bool) (w0 : World) (a0 : Act)
variable (hhn1 : (kq : Int) < (n : Int))
variable (hhn : (h : Int) < (n : Int))
variable (hsub : IntKind.i64.wrap ((kq : Int) - 1) = (h : Int))
variable (hld : ∀ W, Below w0.heap.size w0 W → W.rangeAt g (o + kq * 32) S)
variable (hSi : (Tryd.prog.info? 25).map (·.size) = some S.length)
variable (hld2 : ∀ W, Below w0.heap.size w0 W → W.rangeAt g (o + h * 32) S2)
variable (hSi2 : (Tryd.prog.info? 25).map (·.size) = some S2.length)
variable (hneq : ∀ W, (Op.equalIn 10000 25 (.agg S.toArray) (.agg S2.toArray)).run Tryd.prog W = .ok bo W)
variable (i0 : a0.eval (.tmp 0) = (Value.slice (some ⟨g, o, none⟩) n c)) (i3 : a0.eval (.tmp 3) = (Value.int IntKind.i64 (kq : Int))) (hsz : a0.tmps.size = 61)
include g o n c h kq S S2 bo w0 a0 hhn1 hhn hsub hld hSi hld2 hSi2 hneq i0 i3 hsz
set_option maxHeartbeats 4000000 in
set_option maxRecDepth 20000 in
theorem cm6_h0 :
    Reg.OpOK Tryd.prog (Reg.opsOf Tryd.f33 6) a0 w0 (cm6R g o n c h kq S S2 bo) (fun _ _ _ _ => True) 0 := by
    refine Reg.op_ok2 (fun af => { dst := some 16, op := Op.move (Operand.tmp 0), type := 47, pos := "slices.go:376", after := af, guard := none }) #[] (by kernel_rfl) [] (by kernel_rfl) fun af v W hb hd => ?_
    have e0 := (Reg.gfr_eval0 (ops := (Reg.opsOf Tryd.f33 6)) (a0 := a0) (v := v) (L := []) 0 (by kernel_rfl)).trans i0
    refine ⟨Reg.wanted_none rfl, ?_⟩
    generalize Reg.gfr (Reg.opsOf Tryd.f33 6) a0 v [] = G at e0 ⊢
    generalize hρ : G.eval = ρ at e0
    have hρ' : G.eval = ρ := hρ
    refine Reg.go_run (Value.slice (some ⟨g, o, none⟩) n c) W ?_ ?_
    · rw [hρ']; simp [execOp, go_sem, e0]
    · exact ⟨Below.refl _ _, rfl⟩
set_option maxHeartbeats 4000000 in
set_option maxRecDepth 20000 in
theorem cm6_h1 :
    Reg.OpOK Tryd.prog (Reg.opsOf Tryd.f33 6) a0 w0 (cm6R g o n c h kq S S2 bo) (fun _ _ _ _ => True) 1 := by
    refine Reg.op_ok2 (fun af => { dst := some 17, op := Op.move (Operand.tmp 3), type := 3, pos := "slices.go:376", after := af, guard := none }) #[] (by kernel_rfl) [] (by kernel_rfl) fun af v W hb hd => ?_
    have e3 := (Reg.gfr_eval0 (ops := (Reg.opsOf Tryd.f33 6)) (a0 := a0) (v := v) (L := []) 3 (by kernel_rfl)).trans i3
    refine ⟨Reg.wanted_none rfl, ?_⟩
    generalize Reg.gfr (Reg.opsOf Tryd.f33 6) a0 v [] = G at e3 ⊢
    generalize hρ : G.eval = ρ at e3
    have hρ' : G.eval = ρ := hρ
    refine Reg.go_run (Value.int IntKind.i64 (kq : Int)) W ?_ ?_
    · rw [hρ']; simp [execOp, go_sem, e3]
    · exact ⟨Below.refl _ _, rfl⟩
set_option maxHeartbeats 4000000 in
set_option maxRecDepth 20000 in
theorem cm6_h2 :
    Reg.OpOK Tryd.prog (Reg.opsOf Tryd.f33 6) a0 w0 (cm6R g o n c h kq S S2 bo) (fun _ _ _ _ => True) 2 := by
    refine Reg.op_ok2 (fun af => { dst := some 18, op := Op.indexAddr 47 (Operand.tmp 16) (Operand.tmp 17), type := 0, pos := "slices.go:376", after := af, guard := none }) #[{ on := 0, ground := Ground.data }, { on := 1, ground := Ground.data }] (by kernel_rfl) [0, 1] (by kernel_rfl) fun af v W hb hd => ?_
    have d0 : v 0 = (Value.slice (some ⟨g, o, none⟩) n c) := hd 0 (by decide)
    have d1 : v 1 = (Value.int IntKind.i64 (kq : Int)) := hd 1 (by decide)
    have e16 := (Reg.gfr_eval (ops := (Reg.opsOf Tryd.f33 6)) (a0 := a0) (v := v) (L := [0, 1]) 16 0 (by kernel_rfl) (by rw [hsz]; omega)).trans d0
    have e17 := (Reg.gfr_eval (ops := (Reg.opsOf Tryd.f33 6)) (a0 := a0) (v := v) (L := [0, 1]) 17 1 (by kernel_rfl) (by rw [hsz]; omega)).trans d1
    refine ⟨Reg.wanted_none rfl, ?_⟩
    generalize Reg.gfr (Reg.opsOf Tryd.f33 6) a0 v [0, 1] = G at e16 e17 ⊢
    generalize hρ : G.eval = ρ at e16 e17
    have hρ' : G.eval = ρ := hρ
    refine Reg.go_run (Value.pointer (some ⟨g, o + kq * 32, none⟩)) W ?_ ?_
    · rw [hρ']; simp [execOp, go_sem, e16, e17, hhn1, Tryd.underlying47, Tryd.sizeOf25]
    · exact ⟨Below.refl _ _, rfl⟩
set_option maxHeartbeats 4000000 in
set_option maxRecDepth 20000 in
theorem cm6_h3 :
    Reg.OpOK Tryd.prog (Reg.opsOf Tryd.f33 6) a0 w0 (cm6R g o n c h kq S S2 bo) (fun _ _ _ _ => True) 3 := by
    refine Reg.op_ok2 (fun af => { dst := some 19, op := Op.load 25 (Operand.tmp 18), type := 25, pos := "slices.go:376", after := af, guard := none }) #[{ on := 2, ground := Ground.data }] (by kernel_rfl) [2] (by kernel_rfl) fun af v W hb hd => ?_
    have d2 : v 2 = (Value.pointer (some ⟨g, o + kq * 32, none⟩)) := hd 2 (by decide)
    have e18 := (Reg.gfr_eval (ops := (Reg.opsOf Tryd.f33 6)) (a0 := a0) (v := v) (L := [2]) 18 2 (by kernel_rfl) (by rw [hsz]; omega)).trans d2
    refine ⟨Reg.wanted_none rfl, ?_⟩
    generalize Reg.gfr (Reg.opsOf Tryd.f33 6) a0 v [2] = G at e18 ⊢
    generalize hρ : G.eval = ρ at e18
    have hρ' : G.eval = ρ := hρ
    exact fun K hK => wp_load_mid 25 (.tmp 18) rfl g (o + kq * 32) (by rw [hρ']; exact e18) S _ (hld W hb) Tryd.underlying25 rfl hSi (hK _ _ ⟨Below.refl _ _, rfl⟩)
set_option maxHeartbeats 4000000 in
set_option maxRecDepth 20000 in
theorem cm6_h4 :
    Reg.OpOK Tryd.prog (Reg.opsOf Tryd.f33 6) a0 w0 (cm6R g o n c h kq S S2 bo) (fun _ _ _ _ => True) 4 := by
    refine Reg.op_ok2 (fun af => { dst := some 20, op := Op.move (Operand.tmp 0), type := 47, pos := "slices.go:376", after := af, guard := none }) #[] (by kernel_rfl) [] (by kernel_rfl) fun af v W hb hd => ?_
    have e0 := (Reg.gfr_eval0 (ops := (Reg.opsOf Tryd.f33 6)) (a0 := a0) (v := v) (L := []) 0 (by kernel_rfl)).trans i0
    refine ⟨Reg.wanted_none rfl, ?_⟩
    generalize Reg.gfr (Reg.opsOf Tryd.f33 6) a0 v [] = G at e0 ⊢
    generalize hρ : G.eval = ρ at e0
    have hρ' : G.eval = ρ := hρ
    refine Reg.go_run (Value.slice (some ⟨g, o, none⟩) n c) W ?_ ?_
    · rw [hρ']; simp [execOp, go_sem, e0]
    · exact ⟨Below.refl _ _, rfl⟩
set_option maxHeartbeats 4000000 in
set_option maxRecDepth 20000 in
theorem cm6_h5 :
    Reg.OpOK Tryd.prog (Reg.opsOf Tryd.f33 6) a0 w0 (cm6R g o n c h kq S S2 bo) (fun _ _ _ _ => True) 5 := by
    refine Reg.op_ok2 (fun af => { dst := some 21, op := Op.move (Operand.tmp 3), type := 3, pos := "slices.go:376", after := af, guard := none }) #[] (by kernel_rfl) [] (by kernel_rfl) fun af v W hb hd => ?_
    have e3 := (Reg.gfr_eval0 (ops := (Reg.opsOf Tryd.f33 6)) (a0 := a0) (v := v) (L := []) 3 (by kernel_rfl)).trans i3
    refine ⟨Reg.wanted_none rfl, ?_⟩
    generalize Reg.gfr (Reg.opsOf Tryd.f33 6) a0 v [] = G at e3 ⊢
    generalize hρ : G.eval = ρ at e3
    have hρ' : G.eval = ρ := hρ
    refine Reg.go_run (Value.int IntKind.i64 (kq : Int)) W ?_ ?_
    · rw [hρ']; simp [execOp, go_sem, e3]
    · exact ⟨Below.refl _ _, rfl⟩
set_option maxHeartbeats 4000000 in
set_option maxRecDepth 20000 in
theorem cm6_h6 :
    Reg.OpOK Tryd.prog (Reg.opsOf Tryd.f33 6) a0 w0 (cm6R g o n c h kq S S2 bo) (fun _ _ _ _ => True) 6 := by
    refine Reg.op_ok2 (fun af => { dst := some 22, op := Op.binOp BinOp.sub 3 (Operand.tmp 21) (Operand.const (Value.int IntKind.i64 1)) 3, type := 3, pos := "slices.go:376", after := af, guard := none }) #[{ on := 5, ground := Ground.data }] (by kernel_rfl) [5] (by kernel_rfl) fun af v W hb hd => ?_
    have d5 : v 5 = (Value.int IntKind.i64 (kq : Int)) := hd 5 (by decide)
    have e21 := (Reg.gfr_eval (ops := (Reg.opsOf Tryd.f33 6)) (a0 := a0) (v := v) (L := [5]) 21 5 (by kernel_rfl) (by rw [hsz]; omega)).trans d5
    refine ⟨Reg.wanted_none rfl, ?_⟩
    have eC : ∀ x, (Reg.gfr (Reg.opsOf Tryd.f33 6) a0 v [5]).eval (.const x) = x := fun _ => rfl
    generalize Reg.gfr (Reg.opsOf Tryd.f33 6) a0 v [5] = G at e21 eC ⊢
    generalize hρ : G.eval = ρ at e21 eC
    have hρ' : G.eval = ρ := hρ
    refine Reg.go_run (Value.int IntKind.i64 (h : Int)) W ?_ ?_
    · rw [hρ']; simp [execOp, go_sem, e21, eC, hsub]
    · exact ⟨Below.refl _ _, rfl⟩
set_option maxHeartbeats 4000000 in
set_option maxRecDepth 20000 in
theorem cm6_h7 :
    Reg.OpOK Tryd.prog (Reg.opsOf Tryd.f33 6) a0 w0 (cm6R g o n c h kq S S2 bo) (fun _ _ _ _ => True) 7 := by
    refine Reg.op_ok2 (fun af => { dst := some 23, op := Op.indexAddr 47 (Operand.tmp 20) (Operand.tmp 22), type := 0, pos := "slices.go:376", after := af, guard := none }) #[{ on := 4, ground := Ground.data }, { on := 6, ground := Ground.data }] (by kernel_rfl) [4, 6] (by kernel_rfl) fun af v W hb hd => ?_
    have d4 : v 4 = (Value.slice (some ⟨g, o, none⟩) n c) := hd 4 (by decide)
    have d6 : v 6 = (Value.int IntKind.i64 (h : Int)) := hd 6 (by decide)
    have e20 := (Reg.gfr_eval (ops := (Reg.opsOf Tryd.f33 6)) (a0 := a0) (v := v) (L := [4, 6]) 20 4 (by kernel_rfl) (by rw [hsz]; omega)).trans d4
    have e22 := (Reg.gfr_eval (ops := (Reg.opsOf Tryd.f33 6)) (a0 := a0) (v := v) (L := [4, 6]) 22 6 (by kernel_rfl) (by rw [hsz]; omega)).trans d6
    refine ⟨Reg.wanted_none rfl, ?_⟩
    generalize Reg.gfr (Reg.opsOf Tryd.f33 6) a0 v [4, 6] = G at e20 e22 ⊢
    generalize hρ : G.eval = ρ at e20 e22
    have hρ' : G.eval = ρ := hρ
    refine Reg.go_run (Value.pointer (some ⟨g, o + h * 32, none⟩)) W ?_ ?_
    · rw [hρ']; simp [execOp, go_sem, e20, e22, hhn, Tryd.underlying47, Tryd.sizeOf25]
    · exact ⟨Below.refl _ _, rfl⟩
set_option maxHeartbeats 4000000 in
set_option maxRecDepth 20000 in
theorem cm6_h8 :
    Reg.OpOK Tryd.prog (Reg.opsOf Tryd.f33 6) a0 w0 (cm6R g o n c h kq S S2 bo) (fun _ _ _ _ => True) 8 := by
    refine Reg.op_ok2 (fun af => { dst := some 24, op := Op.load 25 (Operand.tmp 23), type := 25, pos := "slices.go:376", after := af, guard := none }) #[{ on := 7, ground := Ground.data }] (by kernel_rfl) [7] (by kernel_rfl) fun af v W hb hd => ?_
    have d7 : v 7 = (Value.pointer (some ⟨g, o + h * 32, none⟩)) := hd 7 (by decide)
    have e23 := (Reg.gfr_eval (ops := (Reg.opsOf Tryd.f33 6)) (a0 := a0) (v := v) (L := [7]) 23 7 (by kernel_rfl) (by rw [hsz]; omega)).trans d7
    refine ⟨Reg.wanted_none rfl, ?_⟩
    generalize Reg.gfr (Reg.opsOf Tryd.f33 6) a0 v [7] = G at e23 ⊢
    generalize hρ : G.eval = ρ at e23
    have hρ' : G.eval = ρ := hρ
    exact fun K hK => wp_load_mid 25 (.tmp 23) rfl g (o + h * 32) (by rw [hρ']; exact e23) S2 _ (hld2 W hb) Tryd.underlying25 rfl hSi2 (hK _ _ ⟨Below.refl _ _, rfl⟩)
set_option maxHeartbeats 4000000 in
set_option maxRecDepth 20000 in
theorem cm6_h9 :
    Reg.OpOK Tryd.prog (Reg.opsOf Tryd.f33 6) a0 w0 (cm6R g o n c h kq S S2 bo) (fun _ _ _ _ => True) 9 := by
    refine Reg.op_ok2 (fun af => { dst := some 25, op := Op.binOp BinOp.eql 25 (Operand.tmp 19) (Operand.tmp 24) 25, type := 4, pos := "slices.go:376", after := af, guard := none }) #[{ on := 3, ground := Ground.data }, { on := 8, ground := Ground.data }] (by kernel_rfl) [3, 8] (by kernel_rfl) fun af v W hb hd => ?_
    have d3 : v 3 = (Value.agg S.toArray) := hd 3 (by decide)
    have d8 : v 8 = (Value.agg S2.toArray) := hd 8 (by decide)
    have e19 := (Reg.gfr_eval (ops := (Reg.opsOf Tryd.f33 6)) (a0 := a0) (v := v) (L := [3, 8]) 19 3 (by kernel_rfl) (by rw [hsz]; omega)).trans d3
    have e24 := (Reg.gfr_eval (ops := (Reg.opsOf Tryd.f33 6)) (a0 := a0) (v := v) (L := [3, 8]) 24 8 (by kernel_rfl) (by rw [hsz]; omega)).trans d8
    refine ⟨Reg.wanted_none rfl, ?_⟩
    generalize Reg.gfr (Reg.opsOf Tryd.f33 6) a0 v [3, 8] = G at e19 e24 ⊢
    generalize hρ : G.eval = ρ at e19 e24
    have hρ' : G.eval = ρ := hρ
    refine Reg.go_run (Value.bool bo) W ?_ ?_
    · rw [hρ']; simp [execOp, go_sem, e19, e24, hneq]
    · exact ⟨Below.refl _ _, rfl⟩
end
set_option maxHeartbeats 4000000 in
set_option maxRecDepth 20000 in
theorem cm6 (g o n c h kq : Nat) (S S2 : List Value) (bo : Bool) (w0 : World) {s1 s2 s4 s5 s6 s7 s8 s9 s10 s11 s12 s13 s14 s15 s16 s17 s18 s19 s20 s21 s22 s23 s24 s25 s26 s27 s28 s29 s30 s31 s32 s33 s34 s35 s36 s37 s38 s39 s40 s41 s42 s43 s44 s45 s46 s47 s48 s49 s50 s51 s52 s53 s54 s55 s56 s57 s58 s59 s60 : Value}
    (hhn1 : (kq : Int) < (n : Int))
    (hhn : (h : Int) < (n : Int))
    (hsub : IntKind.i64.wrap ((kq : Int) - 1) = (h : Int))
    (hld : ∀ W, Below w0.heap.size w0 W → W.rangeAt g (o + kq * 32) S)
    (hSi : (Tryd.prog.info? 25).map (·.size) = some S.length)
    (hld2 : ∀ W, Below w0.heap.size w0 W → W.rangeAt g (o + h * 32) S2)
    (hSi2 : (Tryd.prog.info? 25).map (·.size) = some S2.length)
    (hneq : ∀ W, (Op.equalIn 10000 25 (.agg S.toArray) (.agg S2.toArray)).run Tryd.prog W = .ok bo W)
    {Q : Exit → Act → World → Prop}
    (hend : ∀ (w : World), Below w0.heap.size w0 w → Q .normal { tmps := #[(Value.slice (some ⟨g, o, none⟩) n c), s1, s2, (Value.int IntKind.i64 (kq : Int)), s4, s5, s6, s7, s8, s9, s10, s11, s12, s13, s14, s15, (Value.slice (some ⟨g, o, none⟩) n c), (Value.int IntKind.i64 (kq : Int)), (Value.pointer (some ⟨g, o + kq * 32, none⟩)), (Value.agg S.toArray), (Value.slice (some ⟨g, o, none⟩) n c), (Value.int IntKind.i64 (kq : Int)), (Value.int IntKind.i64 (h : Int)), (Value.pointer (some ⟨g, o + h * 32, none⟩)), (Value.agg S2.toArray), (Value.bool bo), s26, s27, s28, s29, s30, s31, s32, s33, s34, s35, s36, s37, s38, s39, s40, s41, s42, s43, s44, s45, s46, s47, s48, s49, s50, s51, s52, s53, s54, s55, s56, s57, s58, s59, s60], defers := [] } w) :
    (Code.region 6 (Reg.opsOf Tryd.f33 6) true).wp Tryd.prog Q { tmps := #[(Value.slice (some ⟨g, o, none⟩) n c), s1, s2, (Value.int IntKind.i64 (kq : Int)), s4, s5, s6, s7, s8, s9, s10, s11, s12, s13, s14, s15, s16, s17, s18, s19, s20, s21, s22, s23, s24, s25, s26, s27, s28, s29, s30, s31, s32, s33, s34, s35, s36, s37, s38, s39, s40, s41, s42, s43, s44, s45, s46, s47, s48, s49, s50, s51, s52, s53, s54, s55, s56, s57, s58, s59, s60], defers := [] } w0 := by
  obtain ⟨a0, ha0⟩ : ∃ a0 : Act, a0 = { tmps := #[(Value.slice (some ⟨g, o, none⟩) n c), s1, s2, (Value.int IntKind.i64 (kq : Int)), s4, s5, s6, s7, s8, s9, s10, s11, s12, s13, s14, s15, s16, s17, s18, s19, s20, s21, s22, s23, s24, s25, s26, s27, s28, s29, s30, s31, s32, s33, s34, s35, s36, s37, s38, s39, s40, s41, s42, s43, s44, s45, s46, s47, s48, s49, s50, s51, s52, s53, s54, s55, s56, s57, s58, s59, s60], defers := [] } := ⟨_, rfl⟩
  have hfin : ∀ v : Nat → Value, Reg.gfr (Reg.opsOf Tryd.f33 6) a0 v (List.range 10) = { tmps := #[(Value.slice (some ⟨g, o, none⟩) n c), s1, s2, (Value.int IntKind.i64 (kq : Int)), s4, s5, s6, s7, s8, s9, s10, s11, s12, s13, s14, s15, v 0, v 1, v 2, v 3, v 4, v 5, v 6, v 7, v 8, v 9, s26, s27, s28, s29, s30, s31, s32, s33, s34, s35, s36, s37, s38, s39, s40, s41, s42, s43, s44, s45, s46, s47, s48, s49, s50, s51, s52, s53, s54, s55, s56, s57, s58, s59, s60], defers := [] } := fun v => by rw [ha0]; kernel_rfl
  rw [← ha0]
  have i0 : a0.eval (.tmp 0) = (Value.slice (some ⟨g, o, none⟩) n c) := by rw [ha0]; rfl
  have i3 : a0.eval (.tmp 3) = (Value.int IntKind.i64 (kq : Int)) := by rw [ha0]; rfl
  have hsz : a0.tmps.size = 61 := by rw [ha0]; rfl
  clear ha0
  have hn : (Reg.opsOf Tryd.f33 6).size = 10 := by kernel_rfl
  have h0 := cm6_h0 g o n c h kq S S2 bo w0 a0 hhn1 hhn hsub hld hSi hld2 hSi2 hneq i0 i3 hsz
  have h1 := cm6_h1 g o n c h kq S S2 bo w0 a0 hhn1 hhn hsub hld hSi hld2 hSi2 hneq i0 i3 hsz
  have h2 := cm6_h2 g o n c h kq S S2 bo w0 a0 hhn1 hhn hsub hld hSi hld2 hSi2 hneq i0 i3 hsz
  have h3 := cm6_h3 g o n c h kq S S2 bo w0 a0 hhn1 hhn hsub hld hSi hld2 hSi2 hneq i0 i3 hsz
  have h4 := cm6_h4 g o n c h kq S S2 bo w0 a0 hhn1 hhn hsub hld hSi hld2 hSi2 hneq i0 i3 hsz
  have h5 := cm6_h5 g o n c h kq S S2 bo w0 a0 hhn1 hhn hsub hld hSi hld2 hSi2 hneq i0 i3 hsz
  have h6 := cm6_h6 g o n c h kq S S2 bo w0 a0 hhn1 hhn hsub hld hSi hld2 hSi2 hneq i0 i3 hsz
  have h7 := cm6_h7 g o n c h kq S S2 bo w0 a0 hhn1 hhn hsub hld hSi hld2 hSi2 hneq i0 i3 hsz
  have h8 := cm6_h8 g o n c h kq S S2 bo w0 a0 hhn1 hhn hsub hld hSi hld2 hSi2 hneq i0 i3 hsz
  have h9 := cm6_h9 g o n c h kq S S2 bo w0 a0 hhn1 hhn hsub hld hSi hld2 hSi2 hneq i0 i3 hsz
  refine Reg.region_all (by kernel_rfl) (cm6R g o n c h kq S S2 bo) (by rw [hn, hsz]; kernel_rfl) (cm6_stable g o n c h kq S S2 bo) (fun i hi => ?_) (fun v w hb hR => ?_)
  · rw [hn] at hi
    match i, List.mem_range.1 hi with
    | 0, _ => exact h0
    | 1, _ => exact h1
    | 2, _ => exact h2
    | 3, _ => exact h3
    | 4, _ => exact h4
    | 5, _ => exact h5
    | 6, _ => exact h6
    | 7, _ => exact h7
    | 8, _ => exact h8
    | 9, _ => exact h9
    | (_ + 10), h => omega
  · rw [hn] at hR ⊢
    have v0 : v 0 = (Value.slice (some ⟨g, o, none⟩) n c) := hR 0 (by decide)
    have v1 : v 1 = (Value.int IntKind.i64 (kq : Int)) := hR 1 (by decide)
    have v2 : v 2 = (Value.pointer (some ⟨g, o + kq * 32, none⟩)) := hR 2 (by decide)
    have v3 : v 3 = (Value.agg S.toArray) := hR 3 (by decide)
    have v4 : v 4 = (Value.slice (some ⟨g, o, none⟩) n c) := hR 4 (by decide)
    have v5 : v 5 = (Value.int IntKind.i64 (kq : Int)) := hR 5 (by decide)
    have v6 : v 6 = (Value.int IntKind.i64 (h : Int)) := hR 6 (by decide)
    have v7 : v 7 = (Value.pointer (some ⟨g, o + h * 32, none⟩)) := hR 7 (by decide)
    have v8 : v 8 = (Value.agg S2.toArray) := hR 8 (by decide)
    have v9 : v 9 = (Value.bool bo) := hR 9 (by decide)
    rw [hfin v, v0, v1, v2, v3, v4, v5, v6, v7, v8, v9]
    exact hend w  hb 
def cm11R (g o n c h kq : Nat) (S S2 : List Value) (bo : Bool) : Nat → Value → World → Prop
  | 0 => fun x_ _ => x_ = (Value.slice (some ⟨g, o, none⟩) n c)
  | 1 => fun x_ _ => x_ = (Value.int IntKind.i64 (kq : Int))
  | 2 => fun x_ _ => x_ = (Value.pointer (some ⟨g, o + kq * 32, none⟩))
  | 3 => fun x_ _ => x_ = (Value.agg S.toArray)
  | 4 => fun x_ _ => x_ = (Value.slice (some ⟨g, o, none⟩) n c)
  | 5 => fun x_ _ => x_ = (Value.int IntKind.i64 (kq : Int))
  | 6 => fun x_ _ => x_ = (Value.int IntKind.i64 (h : Int))
  | 7 => fun x_ _ => x_ = (Value.pointer (some ⟨g, o + h * 32, none⟩))
  | 8 => fun x_ _ => x_ = (Value.agg S2.toArray)
  | 9 => fun x_ _ => x_ = (Value.bool (!bo))
  | _ => fun _ _ => True
theorem cm11_stable (g o n c h kq : Nat) (S S2 : List Value) (bo : Bool) : ∀ i_ u_ w_ w_', (cm11R g o n c h kq S S2 bo) i_ u_ w_ → Below w_.heap.size w_ w_' → (cm11R g o n c h kq S S2 bo) i_ u_ w_' := fun i_ u_ w_ w_' h_ hb_ => by
  match i_, h_ with
  | 0, h_ => exact h_
  | 1, h_ => exact h_
  | 2, h_ => exact h_
  | 3, h_ => exact h_
  | 4, h_ => exact h_
  | 5, h_ => exact h_
  | 6, h_ => exact h_
  | 7, h_ => exact h_
  | 8, h_ => exact h_
  | 9, h_ => exact h_
  | (_ + 10), _ => trivial
section
variable (g o n c h kq : Nat) (S S2 : List Value) (bo : Bool) (w0 : World) (a0 : Act)
variable (hhn1 : (kq : Int) < (n : Int))
variable (hhn : (h : Int) < (n : Int))
variable (hsub : IntKind.i64.wrap ((kq : Int) - 1) = (h : Int))
variable (hld : ∀ W, Below w0.heap.size w0 W → W.rangeAt g (o + kq * 32) S)
variable (hSi : (Tryd.prog.info? 25).map (·.size) = some S.length)
variable (hld2 : ∀ W, Below w0.heap.size w0 W → W.rangeAt g (o + h * 32) S2)
variable (hSi2 : (Tryd.prog.info? 25).map (·.size) = some S2.length)
variable (hneq : ∀ W, (Op.equalIn 10000 25 (.agg S.toArray) (.agg S2.toArray)).run Tryd.prog W = .ok bo W)
variable (i4 : a0.eval (.tmp 4) = (Value.slice (some ⟨g, o, none⟩) n c)) (i5 : a0.eval (.tmp 5) = (Value.int IntKind.i64 (kq : Int))) (hsz : a0.tmps.size = 61)
include g o n c h kq S S2 bo w0 a0 hhn1 hhn hsub hld hSi hld2 hSi2 hneq i4 i5 hsz
set_option maxHeartbeats 4000000 in
set_option maxRecDepth 20000 in
theorem cm11_h0 :
    Reg.OpOK Tryd.prog (Reg.opsOf Tryd.f33 11) a0 w0 (cm11R g o n c h kq S S2 bo) (fun _ _ _ _ => True) 0 := by
    refine Reg.op_ok2 (fun af => { dst := some 35, op := Op.move (Operand.tmp 4), type := 47, pos := "slices.go:379", after := af, guard := none }) #[] (by kernel_rfl) [] (by kernel_rfl) fun af v W hb hd => ?_
    have e4 := (Reg.gfr_eval0 (ops := (Reg.opsOf Tryd.f33 11)) (a0 := a0) (v := v) (L := []) 4 (by kernel_rfl)).trans i4
    refine ⟨Reg.wanted_none rfl, ?_⟩
    generalize Reg.gfr (Reg.opsOf Tryd.f33 11) a0 v [] = G at e4 ⊢
    generalize hρ : G.eval = ρ at e4
    have hρ' : G.eval = ρ := hρ
    refine Reg.go_run (Value.slice (some ⟨g, o, none⟩) n c) W ?_ ?_
    · rw [hρ']; simp [execOp, go_sem, e4]
    · exact ⟨Below.refl _ _, rfl⟩
set_option maxHeartbeats 4000000 in
set_option maxRecDepth 20000 in
theorem cm11_h1 :
    Reg.OpOK Tryd.prog (Reg.opsOf Tryd.f33 11) a0 w0 (cm11R g o n c h kq S S2 bo) (fun _ _ _ _ => True) 1 := by
    refine Reg.op_ok2 (fun af => { dst := some 36, op := Op.move (Operand.tmp 5), type := 3, pos := "slices.go:379", after := af, guard := none }) #[] (by kernel_rfl) [] (by kernel_rfl) fun af v W hb hd => ?_
    have e5 := (Reg.gfr_eval0 (ops := (Reg.opsOf Tryd.f33 11)) (a0 := a0) (v := v) (L := []) 5 (by kernel_rfl)).trans i5
    refine ⟨Reg.wanted_none rfl, ?_⟩
    generalize Reg.gfr (Reg.opsOf Tryd.f33 11) a0 v [] = G at e5 ⊢
    generalize hρ : G.eval = ρ at e5
    have hρ' : G.eval = ρ := hρ
    refine Reg.go_run (Value.int IntKind.i64 (kq : Int)) W ?_ ?_
    · rw [hρ']; simp [execOp, go_sem, e5]
    · exact ⟨Below.refl _ _, rfl⟩
set_option maxHeartbeats 4000000 in
set_option maxRecDepth 20000 in
theorem cm11_h2 :
    Reg.OpOK Tryd.prog (Reg.opsOf Tryd.f33 11) a0 w0 (cm11R g o n c h kq S S2 bo) (fun _ _ _ _ => True) 2 := by
    refine Reg.op_ok2 (fun af => { dst := some 37, op := Op.indexAddr 47 (Operand.tmp 35) (Operand.tmp 36), type := 0, pos := "slices.go:379", after := af, guard := none }) #[{ on := 0, ground := Ground.data }, { on := 1, ground := Ground.data }] (by kernel_rfl) [0, 1] (by kernel_rfl) fun af v W hb hd => ?_
    have d0 : v 0 = (Value.slice (some ⟨g, o, none⟩) n c) := hd 0 (by decide)
    have d1 : v 1 = (Value.int IntKind.i64 (kq : Int)) := hd 1 (by decide)
    have e35 := (Reg.gfr_eval (ops := (Reg.opsOf Tryd.f33 11)) (a0 := a0) (v := v) (L := [0, 1]) 35 0 (by kernel_rfl) (by rw [hsz]; omega)).trans d0
    have e36 := (Reg.gfr_eval (ops := (Reg.opsOf Tryd.f33 11)) (a0 := a0) (v := v) (L := [0, 1]) 36 1 (by kernel_rfl) (by rw [hsz]; omega)).trans d1
    refine ⟨Reg.wanted_none rfl, ?_⟩
    generalize Reg.gfr (Reg.opsOf Tryd.f33 11) a0 v [0, 1] = G at e35 e36 ⊢
    generalize hρ : G.eval = ρ at e35 e36
    have hρ' : G.eval = ρ := hρ
    refine Reg.go_run (Value.pointer (some ⟨g, o + kq * 32, none⟩)) W ?_ ?_
    · rw [hρ']; simp [execOp, go_sem, e35, e36, hhn1, Tryd.underlying47, Tryd.sizeOf25]
    · exact ⟨Below.refl _ _, rfl⟩
set_option maxHeartbeats 4000000 in
set_option maxRecDepth 20000 in
theorem cm11_h3 :
    Reg.OpOK Tryd.prog (Reg.opsOf Tryd.f33 11) a0 w0 (cm11R g o n c h kq S S2 bo) (fun _ _ _ _ => True) 3 := by
    refine Reg.op_ok2 (fun af => { dst := some 38, op := Op.load 25 (Operand.tmp 37), type := 25, pos := "slices.go:379", after := af, guard := none }) #[{ on := 2, ground := Ground.data }] (by kernel_rfl) [2] (by kernel_rfl) fun af v W hb hd => ?_
    have d2 : v 2 = (Value.pointer (some ⟨g, o + kq * 32, none⟩)) := hd 2 (by decide)
    have e37 := (Reg.gfr_eval (ops := (Reg.opsOf Tryd.f33 11)) (a0 := a0) (v := v) (L := [2]) 37 2 (by kernel_rfl) (by rw [hsz]; omega)).trans d2
    refine ⟨Reg.wanted_none rfl, ?_⟩
    generalize Reg.gfr (Reg.opsOf Tryd.f33 11) a0 v [2] = G at e37 ⊢
    generalize hρ : G.eval = ρ at e37
    have hρ' : G.eval = ρ := hρ
    exact fun K hK => wp_load_mid 25 (.tmp 37) rfl g (o + kq * 32) (by rw [hρ']; exact e37) S _ (hld W hb) Tryd.underlying25 rfl hSi (hK _ _ ⟨Below.refl _ _, rfl⟩)
set_option maxHeartbeats 4000000 in
set_option maxRecDepth 20000 in
theorem cm11_h4 :
    Reg.OpOK Tryd.prog (Reg.opsOf Tryd.f33 11) a0 w0 (cm11R g o n c h kq S S2 bo) (fun _ _ _ _ => True) 4 := by
    refine Reg.op_ok2 (fun af => { dst := some 39, op := Op.move (Operand.tmp 4), type := 47, pos := "slices.go:379", after := af, guard := none }) #[] (by kernel_rfl) [] (by kernel_rfl) fun af v W hb hd => ?_
    have e4 := (Reg.gfr_eval0 (ops := (Reg.opsOf Tryd.f33 11)) (a0 := a0) (v := v) (L := []) 4 (by kernel_rfl)).trans i4
    refine ⟨Reg.wanted_none rfl, ?_⟩
    generalize Reg.gfr (Reg.opsOf Tryd.f33 11) a0 v [] = G at e4 ⊢
    generalize hρ : G.eval = ρ at e4
    have hρ' : G.eval = ρ := hρ
    refine Reg.go_run (Value.slice (some ⟨g, o, none⟩) n c) W ?_ ?_
    · rw [hρ']; simp [execOp, go_sem, e4]
    · exact ⟨Below.refl _ _, rfl⟩
set_option maxHeartbeats 4000000 in
set_option maxRecDepth 20000 in
theorem cm11_h5 :
    Reg.OpOK Tryd.prog (Reg.opsOf Tryd.f33 11) a0 w0 (cm11R g o n c h kq S S2 bo) (fun _ _ _ _ => True) 5 := by
    refine Reg.op_ok2 (fun af => { dst := some 40, op := Op.move (Operand.tmp 5), type := 3, pos := "slices.go:379", after := af, guard := none }) #[] (by kernel_rfl) [] (by kernel_rfl) fun af v W hb hd => ?_
    have e5 := (Reg.gfr_eval0 (ops := (Reg.opsOf Tryd.f33 11)) (a0 := a0) (v := v) (L := []) 5 (by kernel_rfl)).trans i5
    refine ⟨Reg.wanted_none rfl, ?_⟩
    generalize Reg.gfr (Reg.opsOf Tryd.f33 11) a0 v [] = G at e5 ⊢
    generalize hρ : G.eval = ρ at e5
    have hρ' : G.eval = ρ := hρ
    refine Reg.go_run (Value.int IntKind.i64 (kq : Int)) W ?_ ?_
    · rw [hρ']; simp [execOp, go_sem, e5]
    · exact ⟨Below.refl _ _, rfl⟩
set_option maxHeartbeats 4000000 in
set_option maxRecDepth 20000 in
theorem cm11_h6 :
    Reg.OpOK Tryd.prog (Reg.opsOf Tryd.f33 11) a0 w0 (cm11R g o n c h kq S S2 bo) (fun _ _ _ _ => True) 6 := by
    refine Reg.op_ok2 (fun af => { dst := some 41, op := Op.binOp BinOp.sub 3 (Operand.tmp 40) (Operand.const (Value.int IntKind.i64 1)) 3, type := 3, pos := "slices.go:379", after := af, guard := none }) #[{ on := 5, ground := Ground.data }] (by kernel_rfl) [5] (by kernel_rfl) fun af v W hb hd => ?_
    have d5 : v 5 = (Value.int IntKind.i64 (kq : Int)) := hd 5 (by decide)
    have e40 := (Reg.gfr_eval (ops := (Reg.opsOf Tryd.f33 11)) (a0 := a0) (v := v) (L := [5]) 40 5 (by kernel_rfl) (by rw [hsz]; omega)).trans d5
    refine ⟨Reg.wanted_none rfl, ?_⟩
    have eC : ∀ x, (Reg.gfr (Reg.opsOf Tryd.f33 11) a0 v [5]).eval (.const x) = x := fun _ => rfl
    generalize Reg.gfr (Reg.opsOf Tryd.f33 11) a0 v [5] = G at e40 eC ⊢
    generalize hρ : G.eval = ρ at e40 eC
    have hρ' : G.eval = ρ := hρ
    refine Reg.go_run (Value.int IntKind.i64 (h : Int)) W ?_ ?_
    · rw [hρ']; simp [execOp, go_sem, e40, eC, hsub]
    · exact ⟨Below.refl _ _, rfl⟩
set_option maxHeartbeats 4000000 in
set_option maxRecDepth 20000 in
theorem cm11_h7 :
    Reg.OpOK Tryd.prog (Reg.opsOf Tryd.f33 11) a0 w0 (cm11R g o n c h kq S S2 bo) (fun _ _ _ _ => True) 7 := by
    refine Reg.op_ok2 (fun af => { dst := some 42, op := Op.indexAddr 47 (Operand.tmp 39) (Operand.tmp 41), type := 0, pos := "slices.go:379", after := af, guard := none }) #[{ on := 4, ground := Ground.data }, { on := 6, ground := Ground.data }] (by kernel_rfl) [4, 6] (by kernel_rfl) fun af v W hb hd => ?_
    have d4 : v 4 = (Value.slice (some ⟨g, o, none⟩) n c) := hd 4 (by decide)
    have d6 : v 6 = (Value.int IntKind.i64 (h : Int)) := hd 6 (by decide)
    have e39 := (Reg.gfr_eval (ops := (Reg.opsOf Tryd.f33 11)) (a0 := a0) (v := v) (L := [4, 6]) 39 4 (by kernel_rfl) (by rw [hsz]; omega)).trans d4
    have e41 := (Reg.gfr_eval (ops := (Reg.opsOf Tryd.f33 11)) (a0 := a0) (v := v) (L := [4, 6]) 41 6 (by kernel_rfl) (by rw [hsz]; omega)).trans d6
    refine ⟨Reg.wanted_none rfl, ?_⟩
    generalize Reg.gfr (Reg.opsOf Tryd.f33 11) a0 v [4, 6] = G at e39 e41 ⊢
    generalize hρ : G.eval = ρ at e39 e41
    have hρ' : G.eval = ρ := hρ
    refine Reg.go_run (Value.pointer (some ⟨g, o + h * 32, none⟩)) W ?_ ?_
    · rw [hρ']; simp [execOp, go_sem, e39, e41, hhn, Tryd.underlying47, Tryd.sizeOf25]
    · exact ⟨Below.refl _ _, rfl⟩
set_option maxHeartbeats 4000000 in
set_option maxRecDepth 20000 in
theorem cm11_h8 :
    Reg.OpOK Tryd.prog (Reg.opsOf Tryd.f33 11) a0 w0 (cm11R g o n c h kq S S2 bo) (fun _ _ _ _ => True) 8 := by
    refine Reg.op_ok2 (fun af => { dst := some 43, op := Op.load 25 (Operand.tmp 42), type := 25, pos := "slices.go:379", after := af, guard := none }) #[{ on := 7, ground := Ground.data }] (by kernel_rfl) [7] (by kernel_rfl) fun af v W hb hd => ?_
    have d7 : v 7 = (Value.pointer (some ⟨g, o + h * 32, none⟩)) := hd 7 (by decide)
    have e42 := (Reg.gfr_eval (ops := (Reg.opsOf Tryd.f33 11)) (a0 := a0) (v := v) (L := [7]) 42 7 (by kernel_rfl) (by rw [hsz]; omega)).trans d7
    refine ⟨Reg.wanted_none rfl, ?_⟩
    generalize Reg.gfr (Reg.opsOf Tryd.f33 11) a0 v [7] = G at e42 ⊢
    generalize hρ : G.eval = ρ at e42
    have hρ' : G.eval = ρ := hρ
    exact fun K hK => wp_load_mid 25 (.tmp 42) rfl g (o + h * 32) (by rw [hρ']; exact e42) S2 _ (hld2 W hb) Tryd.underlying25 rfl hSi2 (hK _ _ ⟨Below.refl _ _, rfl⟩)
set_option maxHeartbeats 4000000 in
set_option maxRecDepth 20000 in
theorem cm11_h9 :
    Reg.OpOK Tryd.prog (Reg.opsOf Tryd.f33 11) a0 w0 (cm11R g o n c h kq S S2 bo) (fun _ _ _ _ => True) 9 := by
    refine Reg.op_ok2 (fun af => { dst := some 44, op := Op.binOp BinOp.neq 25 (Operand.tmp 38) (Operand.tmp 43) 25, type := 4, pos := "slices.go:379", after := af, guard := none }) #[{ on := 3, ground := Ground.data }, { on := 8, ground := Ground.data }] (by kernel_rfl) [3, 8] (by kernel_rfl) fun af v W hb hd => ?_
    have d3 : v 3 = (Value.agg S.toArray) := hd 3 (by decide)
    have d8 : v 8 = (Value.agg S2.toArray) := hd 8 (by decide)
    have e38 := (Reg.gfr_eval (ops := (Reg.opsOf Tryd.f33 11)) (a0 := a0) (v := v) (L := [3, 8]) 38 3 (by kernel_rfl) (by rw [hsz]; omega)).trans d3
    have e43 := (Reg.gfr_eval (ops := (Reg.opsOf Tryd.f33 11)) (a0 := a0) (v := v) (L := [3, 8]) 43 8 (by kernel_rfl) (by rw [hsz]; omega)).trans d8
    refine ⟨Reg.wanted_none rfl, ?_⟩
    generalize Reg.gfr (Reg.opsOf Tryd.f33 11) a0 v [3, 8] = G at e38 e43 ⊢
    generalize hρ : G.eval = ρ at e38 e43
    have hρ' : G.eval = ρ := hρ
    refine Reg.go_run (Value.bool (!bo)) W ?_ ?_
    · rw [hρ']; simp [execOp, go_sem, e38, e43, hneq]
    · exact ⟨Below.refl _ _, rfl⟩
end
set_option maxHeartbeats 4000000 in
set_option maxRecDepth 20000 in
theorem cm11 (g o n c h kq : Nat) (S S2 : List Value) (bo : Bool) (w0 : World) {s0 s1 s2 s3 s6 s7 s8 s9 s10 s11 s12 s13 s14 s15 s16 s17 s18 s19 s20 s21 s22 s23 s24 s25 s26 s27 s28 s29 s30 s31 s32 s33 s34 s35 s36 s37 s38 s39 s40 s41 s42 s43 s44 s45 s46 s47 s48 s49 s50 s51 s52 s53 s54 s55 s56 s57 s58 s59 s60 : Value}
    (hhn1 : (kq : Int) < (n : Int))
    (hhn : (h : Int) < (n : Int))
    (hsub : IntKind.i64.wrap ((kq : Int) - 1) = (h : Int))
    (hld : ∀ W, Below w0.heap.size w0 W → W.rangeAt g (o + kq * 32) S)
    (hSi : (Tryd.prog.info? 25).map (·.size) = some S.length)
    (hld2 : ∀ W, Below w0.heap.size w0 W → W.rangeAt g (o + h * 32) S2)
    (hSi2 : (Tryd.prog.info? 25).map (·.size) = some S2.length)
    (hneq : ∀ W, (Op.equalIn 10000 25 (.agg S.toArray) (.agg S2.toArray)).run Tryd.prog W = .ok bo W)
    {Q : Exit → Act → World → Prop}
    (hend : ∀ (w : World), Below w0.heap.size w0 w → Q .normal { tmps := #[s0, s1, s2, s3, (Value.slice (some ⟨g, o, none⟩) n c), (Value.int IntKind.i64 (kq : Int)), s6, s7, s8, s9, s10, s11, s12, s13, s14, s15, s16, s17, s18, s19, s20, s21, s22, s23, s24, s25, s26, s27, s28, s29, s30, s31, s32, s33, s34, (Value.slice (some ⟨g, o, none⟩) n c), (Value.int IntKind.i64 (kq : Int)), (Value.pointer (some ⟨g, o + kq * 32, none⟩)), (Value.agg S.toArray), (Value.slice (some ⟨g, o, none⟩) n c), (Value.int IntKind.i64 (kq : Int)), (Value.int IntKind.i64 (h : Int)), (Value.pointer (some ⟨g, o + h * 32, none⟩)), (Value.agg S2.toArray), (Value.bool (!bo)), s45, s46, s47, s48, s49, s50, s51, s52, s53, s54, s55, s56, s57, s58, s59, s60], defers := [] } w) :
    (Code.region 11 (Reg.opsOf Tryd.f33 11) true).wp Tryd.prog Q { tmps := #[s0, s1, s2, s3, (Value.slice (some ⟨g, o, none⟩) n c), (Value.int IntKind.i64 (kq : Int)), s6, s7, s8, s9, s10, s11, s12, s13, s14, s15, s16, s17, s18, s19, s20, s21, s22, s23, s24, s25, s26, s27, s28, s29, s30, s31, s32, s33, s34, s35, s36, s37, s38, s39, s40, s41, s42, s43, s44, s45, s46, s47, s48, s49, s50, s51, s52, s53, s54, s55, s56, s57, s58, s59, s60], defers := [] } w0 := by
  obtain ⟨a0, ha0⟩ : ∃ a0 : Act, a0 = { tmps := #[s0, s1, s2, s3, (Value.slice (some ⟨g, o, none⟩) n c), (Value.int IntKind.i64 (kq : Int)), s6, s7, s8, s9, s10, s11, s12, s13, s14, s15, s16, s17, s18, s19, s20, s21, s22, s23, s24, s25, s26, s27, s28, s29, s30, s31, s32, s33, s34, s35, s36, s37, s38, s39, s40, s41, s42, s43, s44, s45, s46, s47, s48, s49, s50, s51, s52, s53, s54, s55, s56, s57, s58, s59, s60], defers := [] } := ⟨_, rfl⟩
  have hfin : ∀ v : Nat → Value, Reg.gfr (Reg.opsOf Tryd.f33 11) a0 v (List.range 10) = { tmps := #[s0, s1, s2, s3, (Value.slice (some ⟨g, o, none⟩) n c), (Value.int IntKind.i64 (kq : Int)), s6, s7, s8, s9, s10, s11, s12, s13, s14, s15, s16, s17, s18, s19, s20, s21, s22, s23, s24, s25, s26, s27, s28, s29, s30, s31, s32, s33, s34, v 0, v 1, v 2, v 3, v 4, v 5, v 6, v 7, v 8, v 9, s45, s46, s47, s48, s49, s50, s51, s52, s53, s54, s55, s56, s57, s58, s59, s60], defers := [] } := fun v => by rw [ha0]; kernel_rfl
  rw [← ha0]
  have i4 : a0.eval (.tmp 4) = (Value.slice (some ⟨g, o, none⟩) n c) := by rw [ha0]; rfl
  have i5 : a0.eval (.tmp 5) = (Value.int IntKind.i64 (kq : Int)) := by rw [ha0]; rfl
  have hsz : a0.tmps.size = 61 := by rw [ha0]; rfl
  clear ha0
  have hn : (Reg.opsOf Tryd.f33 11).size = 10 := by kernel_rfl
  have h0 := cm11_h0 g o n c h kq S S2 bo w0 a0 hhn1 hhn hsub hld hSi hld2 hSi2 hneq i4 i5 hsz
  have h1 := cm11_h1 g o n c h kq S S2 bo w0 a0 hhn1 hhn hsub hld hSi hld2 hSi2 hneq i4 i5 hsz
  have h2 := cm11_h2 g o n c h kq S S2 bo w0 a0 hhn1 hhn hsub hld hSi hld2 hSi2 hneq i4 i5 hsz
  have h3 := cm11_h3 g o n c h kq S S2 bo w0 a0 hhn1 hhn hsub hld hSi hld2 hSi2 hneq i4 i5 hsz
  have h4 := cm11_h4 g o n c h kq S S2 bo w0 a0 hhn1 hhn hsub hld hSi hld2 hSi2 hneq i4 i5 hsz
  have h5 := cm11_h5 g o n c h kq S S2 bo w0 a0 hhn1 hhn hsub hld hSi hld2 hSi2 hneq i4 i5 hsz
  have h6 := cm11_h6 g o n c h kq S S2 bo w0 a0 hhn1 hhn hsub hld hSi hld2 hSi2 hneq i4 i5 hsz
  have h7 := cm11_h7 g o n c h kq S S2 bo w0 a0 hhn1 hhn hsub hld hSi hld2 hSi2 hneq i4 i5 hsz
  have h8 := cm11_h8 g o n c h kq S S2 bo w0 a0 hhn1 hhn hsub hld hSi hld2 hSi2 hneq i4 i5 hsz
  have h9 := cm11_h9 g o n c h kq S S2 bo w0 a0 hhn1 hhn hsub hld hSi hld2 hSi2 hneq i4 i5 hsz
  refine Reg.region_all (by kernel_rfl) (cm11R g o n c h kq S S2 bo) (by rw [hn, hsz]; kernel_rfl) (cm11_stable g o n c h kq S S2 bo) (fun i hi => ?_) (fun v w hb hR => ?_)
  · rw [hn] at hi
    match i, List.mem_range.1 hi with
    | 0, _ => exact h0
    | 1, _ => exact h1
    | 2, _ => exact h2
    | 3, _ => exact h3
    | 4, _ => exact h4
    | 5, _ => exact h5
    | 6, _ => exact h6
    | 7, _ => exact h7
    | 8, _ => exact h8
    | 9, _ => exact h9
    | (_ + 10), h => omega
  · rw [hn] at hR ⊢
    have v0 : v 0 = (Value.slice (some ⟨g, o, none⟩) n c) := hR 0 (by decide)
    have v1 : v 1 = (Value.int IntKind.i64 (kq : Int)) := hR 1 (by decide)
    have v2 : v 2 = (Value.pointer (some ⟨g, o + kq * 32, none⟩)) := hR 2 (by decide)
    have v3 : v 3 = (Value.agg S.toArray) := hR 3 (by decide)
    have v4 : v 4 = (Value.slice (some ⟨g, o, none⟩) n c) := hR 4 (by decide)
    have v5 : v 5 = (Value.int IntKind.i64 (kq : Int)) := hR 5 (by decide)
    have v6 : v 6 = (Value.int IntKind.i64 (h : Int)) := hR 6 (by decide)
    have v7 : v 7 = (Value.pointer (some ⟨g, o + h * 32, none⟩)) := hR 7 (by decide)
    have v8 : v 8 = (Value.agg S2.toArray) := hR 8 (by decide)
    have v9 : v 9 = (Value.bool (!bo)) := hR 9 (by decide)
    rw [hfin v, v0, v1, v2, v3, v4, v5, v6, v7, v8, v9]
    exact hend w  hb 
end Go.Proofs.YtcdnbidenaljlaaDoor

