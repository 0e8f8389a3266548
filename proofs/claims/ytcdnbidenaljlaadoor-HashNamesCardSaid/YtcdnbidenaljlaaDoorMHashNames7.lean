/- Texts of this proof, laid into one: HashC, HashT, HashP, HashQ. -/
import Derived.Test.YtcdnbidenaljlaaDoorMHashNames6
import Derived.Test.YtcdnbidenaljlaaDoorMHashNames2
import Derived.Lib.BytesEntry
import Derived.Laws.Externs
import Derived.Laws.Strings2
/- Ids: the program's Compare (bytes.Compare is the machine's own). -/
namespace Go.Proofs.YtcdnbidenaljlaaDoor
open Go.RowKit

theorem bytesOf_nums (l : List UInt8) : Lib.bytesOf (l.map fun b => (b.toNat : Int)) = l := by
  unfold Lib.bytesOf
  rw [List.map_map]
  exact (List.map_congr_left fun b _ => by simp).trans (List.map_id l)
theorem run_bytesOf {P : Program} (w : World) (A : Option Addr) (l : List UInt8) (c : Nat) (h : RdC w A (u8v l)) : (Extern.Bytes.bytesOf (.slice A l.length c)).run P w = .ok (bstr l) w := by
  cases A with
  | none =>
    have : l = [] := by
      cases l with
      | nil => rfl
      | cons b l => obtain ⟨_, e, _⟩ := h 0 _ (u8v_get (b :: l) 0 (by simp)); cases e
    subst this
    rfl
  | some ad =>
    have := Lib.run_loadBytesX (P := P) w (l.map fun b => (b.toNat : Int)) ad .empty (fun j x hj => by
      have hjl : j < l.length := by have := (List.getElem?_eq_some_iff.1 hj).1; simpa using this
      obtain ⟨_, e, hc⟩ := cell_of_rd h j hjl
      cases e
      rw [hc]
      simp [hjl] at hj
      rw [hj])
    rw [List.length_map, bytesOf_nums] at this
    simpa [Extern.Bytes.bytesOf, bstr] using this
theorem run_cmp {P : Program} (w : World) (A B : Option Addr) (a b : List UInt8) (c d : Nat) (ha : RdC w A (u8v a)) (hb : RdC w B (u8v b)) : (Extern.BytealgCompare.compare #[.slice A a.length c, .slice B b.length d]).run P w = .ok (.int .i64 (Lib.compareBytes a b)) w := by
  change Sem.run P (do pure (goInt (Extern.BytealgCompare.cmp (← Extern.Bytes.bytesOf (.slice A a.length c)) (← Extern.Bytes.bytesOf (.slice B b.length d))))) w = _
  simp only [Sem.run_bind, run_bytesOf w A a c ha, run_bytesOf w B b d hb, Sem.run_pure, Result.andThen]
  rw [Lib.cmp_eq]
  rfl
theorem bcompare_any (A B : Option Addr) (n m c d : Nat) (a b : List UInt8) (hn : a.length = n) (hm : b.length = m) (w : World) (ha : RdC w A (u8v a)) (hb : RdC w B (u8v b)) :
    Calls Tryd.prog 30 #[.slice A n c, .slice B m d] w fun e w' => e = .returned (.int .i64 (Lib.compareBytes a b)) ∧ w = w' := by
  subst hn hm
  go_enter Tryd.func30, Tryd.ntmps30
  go_wp2
  rw [run_callFunc_extern Tryd.func45 (by kernel_rfl) (by kernel_rfl) (by kernel_rfl) (e := Extern.BytealgCompare.compare) (by kernel_rfl), run_cmp w A B a b c d ha hb]
  simp only [Result.andThen]
  rw [Oper.upon_value]
  go_wp2
  go_ret
  exact ⟨rfl, rfl⟩
theorem rd_id {w : World} {g : Nat} {l : List UInt8} {t : TypeId} (h : w.heap[g]? = some (.cells (idC l) t (0, 0))) : RdC w (some ⟨g, 0, none⟩) (u8v l) := fun j u hj => by
  refine ⟨_, rfl, ?_⟩
  rw [addr_add_plain, Nat.zero_add, cell_of_row _ _ j _ _ _ h]
  simpa [idC] using hj
theorem idC_inj {a b : List UInt8} (h : idC a = idC b) : a = b := u8v_inj (by simpa [idC] using h)
theorem idC_ints (l : List UInt8) : idC l = intsC .u8 (l.map fun b => (b.toNat : Int)) := by simp [idC, intsC, u8v]
theorem run_eq_id (W : World) (a b : List UInt8) (ha : a.length = 32) (hb : b.length = 32) : (Op.equalIn 10000 25 (.agg (idC a)) (.agg (idC b))).run Tryd.prog W = .ok (decide (a = b)) W := by
  rw [idC_ints, idC_ints, run_eq_ints W 9998 25 5 32 .u8 .u8 Tryd.underlying25 Tryd.underlying5 (by kernel_rfl) (Tryd.isAgg5 W) _ _ (by simpa using ha) (by simpa using hb)]
  congr 1
  rw [Bool.eq_iff_iff, decide_eq_true_iff, decide_eq_true_iff]
  refine ⟨fun h => ?_, fun h => by rw [h]⟩
  have : idC a = idC b := by rw [idC_ints, idC_ints, h]
  exact idC_inj this
theorem size_id : (Tryd.prog.info? 25).map (·.size) = some 32 := by kernel_rfl
set_option maxHeartbeats 1000000 in
theorem compare_any (a b : List UInt8) (ha : a.length = 32) (hb : b.length = 32) (w : World) :
    Calls Tryd.prog 16 #[.agg (idC a), .agg (idC b)] w fun e w' => e = .returned (.int .i64 (Lib.compareBytes a b)) ∧ Below w.heap.size w w' := by
  go_enter Tryd.func16, Tryd.ntmps16
  have hb1 : Below w.heap.size w ((w.alloc (.cells (idC a) 25)).alloc (.cells (idC b) 25)) := ((Below.refl _ w).alloc (Nat.le_refl _) _).alloc (by simp) _
  have hg1 : ((w.alloc (.cells (idC a) 25)).alloc (.cells (idC b) 25)).heap[w.heap.size]? = some (.cells (idC a) 25 (0, 0)) := heap_alloc2_old _ _ _
  have hg2 : ((w.alloc (.cells (idC a) 25)).alloc (.cells (idC b) 25)).heap[w.heap.size + 1]? = some (.cells (idC b) 25 (0, 0)) := heap_alloc2_new _ _ _
  have hsa : (Tryd.prog.info? 25).map (·.size) = some (idC a).size := by rw [idC_size, ha]; exact size_id
  have hsb : (Tryd.prog.info? 25).map (·.size) = some (idC b).size := by rw [idC_size, hb]; exact size_id
  have heq := run_eq_id ((w.alloc (.cells (idC a) 25)).alloc (.cells (idC b) 25)) a b ha hb
  by_cases hab : a = b
  · subst hab
    simp only [decide_true] at heq
    go_wp2_with (first
      | (with_reducible refine wpList_load_row rfl 25 (.tmp 2) rfl _ rfl 25 (idC a) _ _ hg1 Tryd.underlying25 rfl hsa ?_)
      | (with_reducible refine wpList_load_row rfl 25 (.tmp 3) rfl _ rfl 25 (idC a) _ _ hg2 Tryd.underlying25 rfl hsb ?_)
      | fail)
    go_ret
    exact ⟨by rw [cmp_same]; rfl, hb1⟩
  · simp only [hab, decide_false] at heq
    go_wp2_with (first
      | (with_reducible refine wpList_load_row rfl 25 (.tmp 2) rfl _ rfl 25 (idC a) _ _ hg1 Tryd.underlying25 rfl hsa ?_)
      | (with_reducible refine wpList_load_row rfl 25 (.tmp 3) rfl _ rfl 25 (idC b) _ _ hg2 Tryd.underlying25 rfl hsb ?_)
      | fail)
    obtain ⟨w1, hw1⟩ : ∃ w1, w1 = (w.alloc (.cells (idC a) 25)).alloc (.cells (idC b) 25) := ⟨_, rfl⟩
    rw [← hw1] at hb1 hg1 hg2 ⊢
    clear hw1 heq
    have q : ∀ W, Below w1.heap.size w1 W → Calls Tryd.prog 30 #[.slice (some ⟨w.heap.size, 0, none⟩) 32 32, .slice (some ⟨w.heap.size + 1, 0, none⟩) 32 32] W fun e w' => e = .returned (.int .i64 (Lib.compareBytes a b)) ∧ W = w' := fun W hW =>
      bcompare_any _ _ 32 32 32 32 a b ha hb W ((rd_id hg1).below hW) ((rd_id hg2).below hW)
    go_region_held3 (fun W => Below w1.heap.size w1 W) ((repeat first | exact Below.refl _ _ | assumption | apply Below.drew)) (first
      | (go_at_call 30; (with_reducible refine (q _ ?_).mono ?_); (repeat first | exact Below.refl _ _ | assumption | apply Below.drew); rintro e w' ⟨rfl, rfl⟩)
      | fail)
    all_goals
      go_wp2
      go_ret
      exact ⟨rfl, hb1.drew⟩
end Go.Proofs.YtcdnbidenaljlaaDoor

/- Ids: their texts, the reference's and the program's. -/
namespace Go.Proofs.YtcdnbidenaljlaaDoor
open Go.RowKit

def digs : List UInt8 := [48, 49, 50, 51, 52, 53, 54, 55, 56, 57, 97, 98, 99, 100, 101, 102]
def hexD (n : Nat) : UInt8 := digs.getD n 0
def textB (l : List UInt8) : List UInt8 := l.flatMap fun c => [hexD (c.toNat / 16), hexD (c.toNat % 16)]
theorem textB_length (l : List UInt8) : (textB l).length = 2 * l.length := by
  induction l with
  | nil => rfl
  | cons c l ih =>
    have : textB (c :: l) = [hexD (c.toNat / 16), hexD (c.toNat % 16)] ++ textB l := rfl
    rw [this, List.length_append, ih]
    simp
    omega
theorem textB_snoc (l : List UInt8) (k : Nat) (h : k < l.length) : textB (l.take (k + 1)) = textB (l.take k) ++ [hexD (l[k].toNat / 16), hexD (l[k].toNat % 16)] := by
  unfold textB
  rw [List.take_succ_eq_append_getElem h, List.flatMap_append]
  simp
theorem dig_ext (q : Nat) (h : q < 16) : (⟨#[48, 49, 50, 51, 52, 53, 54, 55, 56, 57, 97, 98, 99, 100, 101, 102]⟩ : ByteArray).extract q (q + 1) = bstr [hexD q] := by
  have := ByteArray.extract_mk digs q (q + 1)
  refine Eq.trans this ?_
  unfold bstr hexD
  have hd : q < digs.length := h
  rw [Nat.add_sub_cancel_left, List.drop_eq_getElem_cons hd, List.take_succ_cons, List.take_zero, List.getD_eq_getElem?_getD, List.getElem?_eq_getElem hd]
  rfl
theorem bstr_app (l m : List UInt8) : bstr l ++ bstr m = bstr (l ++ m) := by
  apply ByteArray.ext
  simp [bstr]
theorem dig_run (q : Nat) (h : q < 16) (W : World) : (Instr.index 9 (.string ⟨#[48, 49, 50, 51, 52, 53, 54, 55, 56, 57, 97, 98, 99, 100, 101, 102]⟩) (.int .u8 (q : Int))).run Tryd.prog W = .ok (.int .u8 ((hexD q).toNat : Int)) W := by
  have hd : q < digs.length := h
  have hsz : (⟨#[48, 49, 50, 51, 52, 53, 54, 55, 56, 57, 97, 98, 99, 100, 101, 102]⟩ : ByteArray).size = 16 := rfl
  rw [run_index_string (P := Tryd.prog) W 9 _ .u8 q Tryd.underlying9, dif_pos ⟨by omega, by rw [hsz]; omega⟩]
  unfold hexD
  rw [List.getD_eq_getElem?_getD, List.getElem?_eq_getElem hd]
  rfl
theorem info8 : (Tryd.prog.info? 5).map (fun i => (i.zero, i.size, i.bytes)) = some (some (.int .u8 0), 1, 1) := by kernel_rfl
theorem elt8 : Elt Tryd.prog 22 5 1 1 (.int .u8 0) := ⟨Tryd.underlying22, info8, rfl, by omega⟩
theorem below_al {w W : World} (h : Below w.heap.size w W) (o : Obj) : Below w.heap.size w (W.alloc o) := h.alloc h.size o
theorem rd_two {w : World} {g : Nat} {t : TypeId} {y z : UInt8} (h : w.heap[g]? = some (.cells #[.int .u8 (y.toNat : Int), .int .u8 (z.toNat : Int)] t (0, 0))) : RdC w (some ⟨g, 0, none⟩) (u8v [y, z]) := fun j u hj => by
  refine ⟨_, rfl, ?_⟩
  rw [addr_add_plain, Nat.zero_add, cell_of_row _ _ j _ _ _ h, ← hj, ← Array.getElem?_toList]
  rfl
theorem str_of {w : World} {A : Option Addr} {n c : Nat} {l : List UInt8} (hl : l.length = n) (hr : RdC w A (u8v l)) : (convert 22 9 (.slice A n c)).run Tryd.prog w = .ok (.string (bstr l)) w := by
  rw [← hl]
  exact run_string_of (P := Tryd.prog) w 22 9 5 Tryd.underlying22 Tryd.underlying5 Tryd.underlying9 A l c hr
theorem low4 (x : Nat) : x &&& 15 = x % 16 := Nat.and_two_pow_sub_one_eq_mod x 4
set_option maxRecDepth 20000 in
set_option maxHeartbeats 2000000 in
theorem text_any (a : List UInt8) (ha : a.length = 32) (w : World) :
    Calls Tryd.prog 15 #[.agg (idC a)] w fun e w' => e = .returned (.string (bstr (textB a))) ∧ Below w.heap.size w w' := by
  go_enter Tryd.func15, Tryd.ntmps15
  have hb1 : Below w.heap.size w (w.alloc (.cells (idC a) 25)) := (Below.refl _ w).alloc (Nat.le_refl _) _
  have hg1 : (w.alloc (.cells (idC a) 25)).heap[w.heap.size]? = some (.cells (idC a) 25 (0, 0)) := heap_alloc_new _ _
  have hsa : (Tryd.prog.info? 25).map (·.size) = some (idC a).size := by rw [idC_size, ha]; exact size_id
  go_wp2_with (first
    | (with_reducible refine wpList_load_row rfl 25 (.tmp 1) rfl _ rfl 25 (idC a) _ _ hg1 Tryd.underlying25 rfl hsa ?_)
    | fail)
  obtain ⟨w1, hw1⟩ : ∃ w1, w1 = w.alloc (.cells (idC a) 25) := ⟨_, rfl⟩
  rw [← hw1] at hb1 hg1 ⊢
  clear hw1
  go_loopw [3, 7] (fun s i wr => ∃ k : Nat, k ≤ 32 ∧ i = .int .i64 k ∧ wr.ownsRow w1.heap.size 5 1 s (2 * k) (u8v (textB (a.take k))) ∧ Below w1.heap.size w1 wr) (fun _ i _ => 32 - (intOf i).toNat)
  case atStart => exact ⟨0, by omega, rfl, ⟨by simp [u8v, textB], .inl ⟨rfl, rfl⟩⟩, Below.refl _ _⟩
  case round =>
    obtain ⟨k, hk, rfl, hown, hbr⟩ := hrel
    by_cases hlt : k < 32
    · have ka : k < a.length := by omega
      have hix := fun W => run_index_agg (P := Tryd.prog) W 25 5 32 .i64 (k : Int) (idC a) _ Tryd.underlying25 (by kernel_rfl) (Tryd.isAgg5 W) (by omega) (by omega) (idC_get a k ka)
      have hsn := textB_snoc a k ka
      generalize a[k] = x at *
      have hx8 := x.toNat_lt
      have hand : bits BinOp.and IntKind.u8 (x.toNat : Int) 15 = (x.toNat : Int) % 16 := by
        have := u8_and_nat x.toNat 15 x.toNat_lt (by omega)
        rw [low4] at this
        exact this
      have e1 := dig_run (x.toNat / 16) (by omega)
      have e2 := dig_run (x.toNat % 16) (by omega)
      rw [Int.natCast_ediv] at e1
      rw [Int.natCast_emod] at e2
      obtain ⟨y1, hy1⟩ : ∃ y, y = hexD (x.toNat / 16) := ⟨_, rfl⟩
      obtain ⟨y2, hy2⟩ : ∃ y, y = hexD (x.toNat % 16) := ⟨_, rfl⟩
      rw [← hy1] at e1 hsn
      rw [← hy2] at e2 hsn
      have f1 : ∀ W, (Instr.index 9 (.string ⟨#[48, 49, 50, 51, 52, 53, 54, 55, 56, 57, 97, 98, 99, 100, 101, 102]⟩) (.int .u8 ((x.toNat : Int) / 16))).run Tryd.prog W = .ok (.int .u8 (y1.toNat : Int)) W := e1
      have f2 : ∀ W, (Instr.index 9 (.string ⟨#[48, 49, 50, 51, 52, 53, 54, 55, 56, 57, 97, 98, 99, 100, 101, 102]⟩) (.int .u8 ((x.toNat : Int) % 16))).run Tryd.prog W = .ok (.int .u8 (y2.toNat : Int)) W := e2
      have HSN : Hid (u8v (textB (a.take (k + 1))) = u8v (textB (a.take k)) ++ u8v [y1, y2]) := by show _ = _; rw [hsn, u8v_append]
      clear e1 e2 hy1 hy2 hsn
      generalize textB (a.take k) = xs at *
      have st1 : 2 * k + 2 ≤ maxLen := by unfold maxLen; omega
      have st2 : (2 * k + 2) * 1 ≤ 140737488355328 := by omega
      have hbO : Below w1.heap.size w1 ((wr.alloc (.cells #[.int .u8 (y1.toNat : Int), .int .u8 (y2.toNat : Int)] 5)).drew) := (below_al hbr _).drew
      have st3 := hbO.size
      have hown2 : ((wr.alloc (.cells #[.int .u8 (y1.toNat : Int), .int .u8 (y2.toNat : Int)] 5)).drew).ownsRow w1.heap.size 5 1 _ (2 * k) (u8v xs) := own_below hown (((Below.refl _ wr).alloc (Nat.le_refl _) _).drew)
      have hrd : RdC ((wr.alloc (.cells #[.int .u8 (y1.toNat : Int), .int .u8 (y2.toNat : Int)] 5)).drew) (some ⟨wr.heap.size, 0, none⟩) (u8v [y1, y2]) := rd_two (heap_alloc_new _ _)
      go_wp2_with fail
      go_region_held3 (fun W => Below w1.heap.size w1 W) ((repeat first | exact Below.refl _ _ | assumption | apply Below.drew | apply below_al)) (first
        | (refine step_app elt8 rfl (.tmp 10) (.tmp 17) rfl w1.heap.size _ (2 * k) (u8v xs) rfl hown2 (some ⟨wr.heap.size, 0, none⟩) 2 2 (u8v [y1, y2]) rfl rfl hrd (u8v_one _) st1 st2 st3 ?_; intro v' w' ho hg; have hb3 := below_grown hbO hown2 hg st3 (Nat.le_refl _))
        | fail)
      all_goals go_wp2
      all_goals exact ⟨⟨k + 1, by omega, by go_num, by rw [HSN.out, show 2 * (k + 1) = 2 * k + 2 by omega]; exact ho, hb3⟩, by simp [intOf]; omega⟩
    · obtain rfl : k = 32 := by omega
      rw [List.take_of_length_le (by omega)] at hown
      obtain ⟨A3, c3, rfl, hc3, hm3, hr3, hB3⟩ := RdC.of_own hown
      have k1 := str_of (c := c3) (by rw [textB_length, ha]) hr3
      clear hB3 hown
      go_wp2_with fail
      go_ret
      exact ⟨rfl, below_then hb1 hbr (Nat.le_refl _)⟩
end Go.Proofs.YtcdnbidenaljlaaDoor

/- Ids of texts: what Parse says; the reference's digit; results of which one lies in memory. -/
namespace Go.Proofs.YtcdnbidenaljlaaDoor
open Go.RowKit

/-- The number of a digit; -1: it is none. -/
def digN (c : UInt8) : Int := if 48 ≤ c.toNat ∧ c.toNat ≤ 57 then (c.toNat : Int) - 48 else if 97 ≤ c.toNat ∧ c.toNat ≤ 102 then (c.toNat : Int) - 87 else -1
theorem digN_lt (c : UInt8) : digN c < 16 := by unfold digN; split <;> (try split) <;> omega
theorem digN_ge (c : UInt8) : -1 ≤ digN c := by unfold digN; split <;> (try split) <;> omega
theorem index_dig_nat : ∀ n, n < 256 → Lib.indexByte digs (UInt8.ofNat n) = digN (UInt8.ofNat n) := by decide +kernel
theorem index_dig (c : UInt8) : Lib.indexByte digs c = digN c := by
  have := index_dig_nat c.toNat c.toNat_lt
  rwa [UInt8.ofNat_toNat] at this
/-- A text's id: of each two digits one byte. -/
def byteOf (a b : UInt8) : UInt8 := UInt8.ofNat (16 * (digN a).toNat + (digN b).toNat)
def pairB (s : List UInt8) (k : Nat) : List UInt8 := (List.range k).map fun j => byteOf (s.getD (2 * j) 0) (s.getD (2 * j + 1) 0)
def okB (s : List UInt8) : Bool := s.length == 64 && s.all fun c => decide (0 ≤ digN c)
def parseL (s : List UInt8) : List UInt8 := if okB s = true then pairB s 32 else List.replicate 32 0
def parseE (s : List UInt8) : Int := if okB s = true then 0 else 30
theorem pairB_length (s : List UInt8) (k : Nat) : (pairB s k).length = k := by simp [pairB]
theorem parseL_length (s : List UInt8) : (parseL s).length = 32 := by
  unfold parseL
  split
  · exact pairB_length s 32
  · simp
theorem results_cell_tmp {P : Program} {fn : Func} {p q : Tmp} {ty : TypeId} (h : fn.results = #[.cell p ty, .tmp q]) (tmps : Array Value) (w : World) (g : Nat) (t : TypeId) (cs : Array Value) (fr : Nat × Nat) (d : TypeDesc)
    (hp : tmps.getD p undef = .pointer (some ⟨g, 0, none⟩)) (hg : w.heap[g]? = some (.cells cs t fr))
    (hu : P.underlying ty = some d) (hd : (match d with | .struct _ | .array _ _ => true | _ => false) = true) (hi : (P.info? ty).map (·.size) = some cs.size) :
    (results fn tmps).run P w = .ok (.tuple #[.agg cs, tmps.getD q undef]) w := by
  have hp' : tmps[p]?.getD undef = .pointer (some ⟨g, 0, none⟩) := by simpa using hp
  simp [results, h, hp', asAddr, run_loadVar_row w g t ty cs fr d hg hu hd hi]
def zeros : List UInt8 := List.replicate 32 0
theorem zero_id : (Tryd.prog.info? 25).bind (fun i => i.zero.map Value.cells) = some (idC zeros) := by kernel_rfl
theorem idC_set (l : List UInt8) (k : Nat) (b : UInt8) : idC (l.set k b) = (idC l).setIfInBounds k (.int .u8 (b.toNat : Int)) := by
  apply Array.ext'
  simp [idC, u8v, List.map_set]
def partB (s : List UInt8) (k : Nat) : List UInt8 := pairB s k ++ List.replicate (32 - k) 0
theorem partB_length (s : List UInt8) (k : Nat) (h : k ≤ 32) : (partB s k).length = 32 := by simp [partB, pairB_length]; omega
theorem partB_zero (s : List UInt8) : partB s 0 = zeros := by simp [partB, pairB, zeros]
theorem partB_full (s : List UInt8) : partB s 32 = pairB s 32 := by simp [partB]
theorem partB_set (s : List UInt8) (k : Nat) (h : k < 32) : (partB s k).set k (byteOf (s.getD (2 * k) 0) (s.getD (2 * k + 1) 0)) = partB s (k + 1) := by
  have e : pairB s (k + 1) = pairB s k ++ [byteOf (s.getD (2 * k) 0) (s.getD (2 * k + 1) 0)] := by simp [pairB, List.range_succ]
  unfold partB
  rw [e, show 32 - k = (32 - (k + 1)) + 1 by omega, List.replicate_succ, List.set_append_right _ _ (by rw [pairB_length]; exact Nat.le_refl _), pairB_length, Nat.sub_self, List.set_cons_zero, List.append_assoc]
  rfl
end Go.Proofs.YtcdnbidenaljlaaDoor

/- Ids of texts: the reference's Parse. -/
namespace Go.Proofs.YtcdnbidenaljlaaDoor
open Go.RowKit

/-- 'T{}' of an array type: its zero. -/
theorem run_build_z {P : Program} (W : World) (ty e : TypeId) (n : Nat) (Z : Array Value) (hz : (P.info? ty).bind (fun i => i.zero.map Value.cells) = some Z) (ht : P.underlying ty = some (.array n e)) (hs : ∃ z, (sizeOf e).run P W = .ok z W) : (Instr.build ty #[]).run P W = .ok (.agg Z) W := by
  obtain ⟨z, hs⟩ := hs
  cases hq : P.info? ty with
  | none => simp [hq] at hz
  | some i =>
    cases hq2 : i.zero with
    | none => simp [hq, hq2] at hz
    | some v =>
      have hv : v.cells = Z := by simpa [hq, hq2] using hz
      simp [Instr.build, zeroValue, typeInfo, hq, hq2, run_underlying ht, hs, Instr.fill, hv]
theorem wpList_build_z {P : Program} {ops : Array Oper} {rest : List Oper} {o : Oper} {a : Act} {w : World} {Q : Exit → Act → World → Prop} (hgd : o.guard = none) (ty : TypeId) (ho : o.op = .build ty #[]) (Z : Array Value) (hr : (Instr.build ty #[]).run P w = .ok (.agg Z) w)
    (h : wpList P ops Q rest (a.put o.dst (.agg Z)) w) : wpList P ops Q (o :: rest) a w := by
  refine wpList_plain hgd fun K hK => ?_
  unfold Oper.wp execOp
  simp only [ho, Array.map_empty, Sem.run_bind, hr]
  exact hK _ _ h
theorem str_index (W : World) (s : List UInt8) (j : Nat) (h : j < s.length) (i : Int) (hi : i = j) : (Instr.index 9 (.string (bstr s)) (.int .i64 i)).run Tryd.prog W = .ok (.int .u8 (s[j].toNat : Int)) W := by
  subst hi
  have hsz : (bstr s).size = s.length := bstr_size s
  rw [run_index_string (P := Tryd.prog) W 9 _ .i64 j Tryd.underlying9, dif_pos ⟨by omega, by rw [hsz]; omega⟩]
  rfl
theorem okB_of {s : List UInt8} (hl : s.length = 64) (h : ∀ j (hj : j < 64), 0 ≤ digN (s[j]'(by omega))) : okB s = true := by
  unfold okB
  rw [Bool.and_eq_true, List.all_eq_true]
  refine ⟨by simp [hl], fun c hc => ?_⟩
  obtain ⟨j, hj, rfl⟩ := List.getElem_of_mem hc
  simpa using h j (by omega)
theorem okB_not {s : List UInt8} (j : Nat) (hj : j < s.length) (h : digN s[j] < 0) : ¬ okB s = true := by
  unfold okB
  rw [Bool.and_eq_true, List.all_eq_true]
  rintro ⟨_, h2⟩
  have := h2 s[j] (List.getElem_mem _)
  simp at this
  omega
end Go.Proofs.YtcdnbidenaljlaaDoor

