/- The law SumLaid, walked. -/
import Derived.Test.YtnpdbnphoifjlaaSumE
import Derived.Test.YtnpdbnphoifjlaaSumB
import Derived.Test.YtnpdbnphoifjlaaSumG
namespace Go.Proofs.Ytnpdbnphoifjlaa
open Go.RowKit

/-- Three laid over one another. -/
def x3 (a b c : List UInt8) : List UInt8 := List.zipWith (fun p q => p ^^^ q) (List.zipWith (fun p q => p ^^^ q) a b) c
theorem x3_length (a b c : List UInt8) : (x3 a b c).length = min (min a.length b.length) c.length := by simp [x3]
theorem x3_get (a b c : List UInt8) (k : Nat) (ha : k < a.length) (hb : k < b.length) (hc : k < c.length) (h : k < (x3 a b c).length) : (x3 a b c)[k] = a[k] ^^^ b[k] ^^^ c[k] := by simp [x3]
theorem byteN_x3 (p q r : Nat) (a b c : UInt8) : byteN (p ^^^ q ^^^ r) (a ^^^ b ^^^ c) = byteN p a ^^^ byteN q b ^^^ byteN r c := by
  simp only [byteN_eq, UInt8.toNat_xor, ← iterN_xor]
  congr 1
  ac_rfl
theorem overN_x3 (a b c : List UInt8) (p q r : Nat) (h1 : a.length = b.length) (h2 : a.length = c.length) : overN (p ^^^ q ^^^ r) (x3 a b c) = overN p a ^^^ overN q b ^^^ overN r c := by
  induction a generalizing b c p q r with
  | nil => cases b <;> cases c <;> simp_all [x3, overN]
  | cons x a ih => cases b with
    | nil => cases h1
    | cons y b => cases c with
      | nil => cases h2
      | cons z c =>
        have := ih b c (byteN p x) (byteN q y) (byteN r z) (by simpa using h1) (by simpa using h2)
        rw [← byteN_x3] at this
        exact this
theorem x3_take (a b c : List UInt8) (n : Nat) (h : n = min (min a.length b.length) c.length) : x3 (a.take n) (b.take n) (c.take n) = x3 a b c := by
  have := x3_length a b c
  rw [x3, x3, ← List.take_zipWith, ← List.take_zipWith]
  exact List.take_of_length_le (by rw [h]; show (x3 a b c).length ≤ _; omega)
theorem ofN_x3 (a b c : List UInt8) (n : Nat) (h : n = min (min a.length b.length) c.length) : ofN [x3 a b c] = ofN [a.take n] ^^^ ofN [b.take n] ^^^ ofN [c.take n] := by
  have e : ∀ l, ofN [l] = 4294967295 ^^^ overN 4294967295 l := fun l => by
    have : ofN [l] = 4294967295 - overN 4294967295 l := rfl
    rw [this, not_nat32 _ (overN_lt l _ (by omega))]
  have hm : (4294967295 : Nat) = 4294967295 ^^^ 4294967295 ^^^ 4294967295 := by decide
  rw [e, e, e, e, ← x3_take a b c n h]
  have := overN_x3 (a.take n) (b.take n) (c.take n) 4294967295 4294967295 4294967295 (by simp; omega) (by simp; omega)
  rw [← hm] at this
  rw [this]
  generalize overN 4294967295 (a.take n) = p
  generalize overN 4294967295 (b.take n) = q
  generalize overN 4294967295 (c.take n) = r
  conv => lhs; rw [hm]
  ac_rfl
theorem onN_app' (s : Nat) (a b : List UInt8) : onN (onN s a) b = onN s (a ++ b) := by
  unfold onN
  have h := overN_lt a (4294967295 - s) (by omega)
  rw [show 4294967295 - (4294967295 - overN (4294967295 - s) a) = overN (4294967295 - s) a by omega]
  congr 1
  unfold overN
  rw [List.foldl_append]
theorem onN_cut (l : List UInt8) (k : Nat) : onN (ofN [l.take k]) (l.drop k) = ofN [l] := by
  show onN (onN 0 (l.take k)) (l.drop k) = onN 0 l
  rw [onN_app', List.take_append_drop]
/-- The sum of one part, as a call of the row that holds it. -/
theorem of_row (A : Option Addr) (n c : Nat) (l : List UInt8) (hn : l.length = n) (w : World) (hr : RdC w A (u8v l)) (hl : n ≤ 9223372036854775807) : ∀ W g, Below w.heap.size w W → W.heap[g]? = some (.cells #[.slice A n c] 22 (0, 0)) → Calls Try.prog 10 #[.slice (some ⟨g, 0, none⟩) 1 1] W fun e w' => e = .returned (.int .u32 (ofN [l] : Int)) ∧ W = w' := fun W g hb hg =>
  of_any _ _ _ [⟨A, n, c, l⟩] rfl W (rd_one hg) (fun s hs => by
    simp only [List.mem_cons, List.not_mem_nil, or_false] at hs
    subst hs
    exact ⟨hr.below hb, hn, hl⟩) (show 1 ≤ 9223372036854775807 by omega)
theorem below_al {w W : World} (h : Below w.heap.size w W) (o : Obj) : Below w.heap.size w (W.alloc o) := h.alloc h.size o
theorem rd_one' {w : World} {g : Nat} {t : TypeId} {z : UInt8} (h : w.heap[g]? = some (.cells #[.int .u8 (z.toNat : Int)] t (0, 0))) : RdC w (some ⟨g, 0, none⟩) (u8v [z]) := fun j u hj => by
  refine ⟨_, rfl, ?_⟩
  rw [addr_add_plain, Nat.zero_add, cell_of_row _ _ j _ _ _ h, ← hj, ← Array.getElem?_toList]
  rfl
set_option maxRecDepth 20000 in
set_option maxHeartbeats 4000000 in
theorem sumLaid_walk (Aa : Option Addr) (na ca : Nat) (la : List UInt8) (Ab : Option Addr) (nb cb : Nat) (lb : List UInt8) (Ac : Option Addr) (nc cc : Nat) (lc : List UInt8) (at1 : Nat) (w : World)
    (ha : ByteRow w Aa na ca la) (hb : ByteRow w Ab nb cb lb) (hc : ByteRow w Ac nc cc lc) (h1 : at1 < 65536) :
    Calls Try.prog 4 #[.slice Aa na ca, .slice Ab nb cb, .slice Ac nc cc, .int .u16 at1] w fun e w' => e = .returned (.bool true) ∧ Below w.heap.size w w' := by
  obtain ⟨hla, hca, hma, hra⟩ := ha
  obtain ⟨hlb, hcb, hmb, hrb⟩ := hb
  obtain ⟨hlc, hcc, hmc, hrc⟩ := hc
  have HA := Lib.hid hla
  have HB := Lib.hid hlb
  have HC := Lib.hid hlc
  clear hla hlb hlc
  go_enter Try.func4, Try.ntmps4
  go_wp2_with fail
  refine (alive_any w).mono ?_
  rintro e wa ⟨rfl, hba⟩
  replace hra := hra.below hba
  replace hrb := hrb.below hba
  replace hrc := hrc.below hba
  have hza := hba.size
  by_cases qa : 2000 < na
  · go_wp2_with fail
    go_ret
    exact ⟨rfl, hba⟩
  by_cases qb : 2000 < nb
  · go_wp2_with fail
    go_ret
    exact ⟨rfl, hba⟩
  by_cases qc : 2000 < nc
  · go_wp2_with fail
    go_ret
    exact ⟨rfl, hba⟩
  have qm := x3_length la lb lc
  rw [HA.out, HB.out, HC.out] at qm
  obtain ⟨n, hn⟩ : ∃ n, n = min (min na nb) nc := ⟨_, rfl⟩
  have hn2 : n ≤ na ∧ n ≤ nb ∧ n ≤ nc ∧ n ≤ 2000 := by omega
  have HN := Lib.hid hn
  have HX : Hid ((x3 la lb lc).length = n) := by show _ = _; rw [qm, hn]
  clear hn qm
  have hxg : ∀ k (hk : k < n), ∃ (ka : k < la.length) (kb : k < lb.length) (kc : k < lc.length) (kx : k < (x3 la lb lc).length), (x3 la lb lc)[k] = la[k] ^^^ lb[k] ^^^ lc[k] := fun k hk =>
    ⟨by rw [HA.out]; omega, by rw [HB.out]; omega, by rw [HC.out]; omega, by rw [HX.out]; omega, x3_get ..⟩
  obtain ⟨m1, hm1⟩ : ∃ m1 : Nat, m1 = min na nb := ⟨_, rfl⟩
  have hi1 : (if nb < na then (nb : Int) else (na : Int)) = (m1 : Int) := by rw [hm1]; split <;> omega
  have hi2 : (if nc < m1 then (nc : Int) else (m1 : Int)) = (n : Int) := by rw [HN.out, ← hm1]; split <;> omega
  clear hm1
  go_wp2_with fail
  clear hi1 hi2
  go_loopw [11, 12] (fun v i wr => ∃ k : Nat, k ≤ n ∧ i = .int .i64 k ∧ wr.ownsRow wa.heap.size 5 1 v k (u8v ((x3 la lb lc).take k)) ∧ Below wa.heap.size wa wr) (fun _ i _ => n - (intOf i).toNat)
  case atStart => exact ⟨0, by omega, rfl, ⟨by simp [u8v], .inl ⟨rfl, rfl⟩⟩, Below.refl _ _⟩
  case round =>
    obtain ⟨k, hk, rfl, hown, hbr⟩ := hrel
    by_cases hlt : k < n
    · obtain ⟨ka, kb, kc, kx, hxk⟩ := hxg k hlt
      obtain ⟨ada, rfl, hqa⟩ := hra k _ (u8v_get la k ka)
      obtain ⟨adb, rfl, hqb⟩ := hrb k _ (u8v_get lb k kb)
      obtain ⟨adc, rfl, hqc⟩ := hrc k _ (u8v_get lc k kc)
      have fa : ∀ W, Below wa.heap.size wa W → W.cell? (ada.add k) = some (.int .u8 (la[k].toNat : Int)) := fun W h => (h.cell (World.block_lt_of_cell? wa _ hqa)).trans hqa
      have fb : ∀ W, Below wa.heap.size wa W → W.cell? (adb.add k) = some (.int .u8 (lb[k].toNat : Int)) := fun W h => (h.cell (World.block_lt_of_cell? wa _ hqb)).trans hqb
      have fc : ∀ W, Below wa.heap.size wa W → W.cell? (adc.add k) = some (.int .u8 (lc[k].toNat : Int)) := fun W h => (h.cell (World.block_lt_of_cell? wa _ hqc)).trans hqc
      have hsn : u8v ((x3 la lb lc).take (k + 1)) = u8v ((x3 la lb lc).take k) ++ u8v [la[k] ^^^ lb[k] ^^^ lc[k]] := by
        rw [List.take_succ_eq_append_getElem kx, u8v_append, hxk]
      generalize la[k] = ea at *
      generalize lb[k] = eb at *
      generalize lc[k] = ec at *
      obtain ⟨z1, hz1⟩ : ∃ z1, z1 = ea ^^^ eb := ⟨_, rfl⟩
      obtain ⟨ez, hez⟩ : ∃ ez, ez = z1 ^^^ ec := ⟨_, rfl⟩
      have g1 : bits BinOp.xor IntKind.u8 (ea.toNat : Int) (eb.toNat : Int) = (z1.toNat : Int) := by rw [u8_xor_nat _ _ ea.toNat_lt eb.toNat_lt, hz1, UInt8.toNat_xor]
      have g2 : bits BinOp.xor IntKind.u8 (z1.toNat : Int) (ec.toNat : Int) = (ez.toNat : Int) := by rw [u8_xor_nat _ _ z1.toNat_lt ec.toNat_lt, hez, UInt8.toNat_xor]
      rw [← hz1, ← hez] at hsn
      have la1 : k < na := by omega
      have lb1 : k < nb := by omega
      have lc1 : k < nc := by omega
      clear hz1 hez
      have HSN := Lib.hid hsn
      clear hsn hxk hqa hqb hqc hra hrb hrc
      generalize (x3 la lb lc).take k = xs at *
      go_wp2_with fail
      have st1 : k + 1 ≤ maxLen := by unfold maxLen; omega
      have st2 : (k + 1) * 1 ≤ 140737488355328 := by omega
      have hbO : Below wa.heap.size wa ((wr.alloc (.cells #[.int .u8 (ez.toNat : Int)] 5)).drew) := (below_al hbr _).drew
      have st3 := hbO.size
      have hown2 : ((wr.alloc (.cells #[.int .u8 (ez.toNat : Int)] 5)).drew).ownsRow wa.heap.size 5 1 _ k (u8v xs) := own_below hown (((Below.refl _ wr).alloc (Nat.le_refl _) _).drew)
      have hrd : RdC ((wr.alloc (.cells #[.int .u8 (ez.toNat : Int)] 5)).drew) (some ⟨wr.heap.size, 0, none⟩) (u8v [ez]) := rd_one' (heap_alloc_new _ _)
      go_region_held3 (fun W => Below wa.heap.size wa W) ((repeat first | exact Below.refl _ _ | assumption | apply Below.drew | apply below_al)) (first
        | (refine step_app elt8 rfl (.tmp 45) (.tmp 60) rfl wa.heap.size _ k (u8v xs) rfl hown2 (some ⟨wr.heap.size, 0, none⟩) 1 1 (u8v [ez]) rfl rfl hrd (u8v_one _) st1 st2 st3 ?_; intro v' w' ho hg; have hb3 := below_grown hbO hown2 hg st3 (Nat.le_refl _))
        | fail)
      go_wp2
      go_roundw
      case rel => exact ⟨k + 1, by omega, by go_num, by rw [HSN.out]; exact ho, hb3⟩
      case measure => simp [intOf]; omega
    · obtain rfl : k = n := by omega
      have hx0 : (x3 la lb lc).take k = x3 la lb lc := by rw [← HX.out, List.take_length]
      rw [hx0] at hown
      obtain ⟨Ao, co, rfl, hco, hmo, hro, hBo⟩ := RdC.of_own hown
      clear hBo hown
      replace hra := hra.below hbr
      replace hrb := hrb.below hbr
      replace hrc := hrc.below hbr
      have hend := below_then hba hbr (Nat.le_refl _)
      have hmod : (at1 : Int) % ((k : Int) + 1) = ((at1 % (k + 1) : Nat) : Int) := by simp
      have hcut := Nat.mod_lt at1 (show 0 < k + 1 by omega)
      obtain ⟨j, hj⟩ : ∃ j, j = at1 % (k + 1) := ⟨_, rfl⟩
      rw [← hj] at hmod hcut
      clear hj
      have hlin := ofN_x3 la lb lc k (by rw [HA.out, HB.out, HC.out]; exact HN.out)
      obtain ⟨y0, hy0⟩ : ∃ y, y = ofN [x3 la lb lc] := ⟨_, rfl⟩
      obtain ⟨ya, hya⟩ : ∃ y, y = ofN [la.take k] := ⟨_, rfl⟩
      obtain ⟨yb, hyb⟩ : ∃ y, y = ofN [lb.take k] := ⟨_, rfl⟩
      obtain ⟨yc, hyc⟩ : ∃ y, y = ofN [lc.take k] := ⟨_, rfl⟩
      obtain ⟨yk, hyk⟩ : ∃ y, y = ofN [la.take j] := ⟨_, rfl⟩
      have la0 : ya < 4294967296 := by rw [hya]; exact ofN_lt _
      have lb0 : yb < 4294967296 := by rw [hyb]; exact ofN_lt _
      have lc0 : yc < 4294967296 := by rw [hyc]; exact ofN_lt _
      have lk0 : yk < 4294967296 := by rw [hyk]; exact ofN_lt _
      rw [← hy0, ← hya, ← hyb, ← hyc] at hlin
      have x1 : bits BinOp.xor IntKind.u32 (ya : Int) (yb : Int) = ((ya ^^^ yb : Nat) : Int) := u32_xor_nat _ _ la0 lb0
      have x2 : bits BinOp.xor IntKind.u32 ((ya ^^^ yb : Nat) : Int) (yc : Int) = (y0 : Int) := by rw [hlin]; exact u32_xor_nat _ _ (xor_lt32 _ _ la0 lb0) lc0
      have qO := of_row Ao k co (x3 la lb lc) HX.out wr hro (by omega)
      have qA := of_row Aa k ca (la.take k) (by rw [List.length_take, HA.out]; omega) wr (by rw [← u8v_take]; exact hra.take _) (by omega)
      have qB := of_row Ab k cb (lb.take k) (by rw [List.length_take, HB.out]; omega) wr (by rw [← u8v_take]; exact hrb.take _) (by omega)
      have qC := of_row Ac k cc (lc.take k) (by rw [List.length_take, HC.out]; omega) wr (by rw [← u8v_take]; exact hrc.take _) (by omega)
      have qK := of_row Aa j ca (la.take j) (by rw [List.length_take, HA.out]; omega) wr (by rw [← u8v_take]; exact hra.take _) (by omega)
      have hcutA : onN yk ((la.take k).drop j) = ya := by
        have := onN_cut (la.take k) j
        rwa [List.take_take, Nat.min_eq_left (by omega), ← hya, ← hyk] at this
      have qL : ∀ W, Below wr.heap.size wr W → Calls Try.prog 11 #[.int .u32 (yk : Int), .slice (subA Aa ca j 1) (k - j) (ca - j)] W fun e w' => e = .returned (.int .u32 (ya : Int)) ∧ W = w' := fun W hW => by
        have := on_any yk lk0 (subA Aa ca j 1) (k - j) (ca - j) ((la.take k).drop j) (by rw [List.length_drop, List.length_take, HA.out]; omega) W (by
          have h2 := ((hra.take k).drop ca j 1 (by rw [u8v_take, u8v_length, List.length_take, HA.out]; omega)).below hW
          rwa [Nat.mul_one, u8v_take, u8v_drop] at h2) (by omega)
        rwa [hcutA] at this
      have qR : ∀ W, Below wr.heap.size wr W → Calls Try.prog 9 #[.slice Ao k co] W fun e w' => e = .returned (.int .u32 (y0 : Int)) ∧ W = w' := fun W hW => by
        have := rof_any Ao k co (x3 la lb lc) HX.out W (hro.below hW) (by omega)
        rwa [← hy0] at this
      rw [← hy0] at qO
      rw [← hya] at qA
      rw [← hyb] at qB
      rw [← hyc] at qC
      rw [← hyk] at qK
      have s1 := fun W => run_sub_h (P := Try.prog) W 22 Aa na ca 1 Try.underlying22 (Try.sizeOf5 W) (k : Int) k rfl (by omega)
      have s2 := fun W => run_sub_h (P := Try.prog) W 22 Ab nb cb 1 Try.underlying22 (Try.sizeOf5 W) (k : Int) k rfl (by omega)
      have s3 := fun W => run_sub_h (P := Try.prog) W 22 Ac nc cc 1 Try.underlying22 (Try.sizeOf5 W) (k : Int) k rfl (by omega)
      have s4 := fun W => run_sub_h (P := Try.prog) W 22 Aa na ca 1 Try.underlying22 (Try.sizeOf5 W) (j : Int) j rfl (by omega)
      have s5 := fun W => run_sub_lh (P := Try.prog) W 22 Aa na ca 1 Try.underlying22 (Try.sizeOf5 W) (j : Int) (k : Int) j k rfl rfl (by omega) (by omega)
      clear hx0 hlin hy0 hya hyb hyc hyk hcutA hra hrb hrc hro hxg
      go_wp2_with fail
      refine laid Ao Aa Ab Ac na ca nb cb nc cc k j co y0 ya yb yc yk (ya ^^^ yb) wr _ qO qA qB qC qK qL qR s1 s2 s3 s4 s5 x1 x2 rfl rfl rfl rfl rfl rfl ?_ rfl fun az wz hbz hdf _ hv => ?_
      · exact congrArg (Value.int IntKind.i64) hmod
      go_wp2_with fail
      refine bodyPost_ret (results_tmp rfl _ _ _) hdf ?_
      exact ⟨congrArg Ending.returned hv, below_then hend hbz (Nat.le_refl _)⟩
end Go.Proofs.Ytnpdbnphoifjlaa
