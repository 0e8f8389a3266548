/- What came in, opened: what the walks ask of arguments. -/
import Derived.Test.YtcdnbidenaljlaaDoorMHashNames2
import Derived.ProofKit
namespace Go.Proofs.YtcdnbidenaljlaaDoor
open Go.RowKit Go.ChangeShapes

theorem u8_of_wf {a : Int} (h : (Lit.int .u8 a).wf = true) : ∃ b : UInt8, a = (b.toNat : Int) := by
  simp only [Lit.wf, Bool.and_eq_true, decide_eq_true_eq] at h
  have hmin : IntKind.u8.min = 0 := rfl
  have hmax : IntKind.u8.max = 255 := rfl
  refine ⟨UInt8.ofNat a.toNat, ?_⟩
  rw [UInt8.toNat_ofNat']
  omega
theorem u16_of_wf {a : Int} (h : (Lit.int .u16 a).wf = true) : ∃ x : Nat, a = (x : Int) ∧ x < 65536 := by
  simp only [Lit.wf, Bool.and_eq_true, decide_eq_true_eq] at h
  have hmin : IntKind.u16.min = 0 := rfl
  have hmax : IntKind.u16.max = 65535 := rfl
  exact ⟨a.toNat, by omega, by omega⟩
theorem u32_of_wf {a : Int} (h : (Lit.int .u32 a).wf = true) : ∃ x : Nat, a = (x : Int) ∧ x < 4294967296 := by
  simp only [Lit.wf, Bool.and_eq_true, decide_eq_true_eq] at h
  have hmin : IntKind.u32.min = 0 := rfl
  have hmax : IntKind.u32.max = 4294967295 := rfl
  exact ⟨a.toNat, by omega, by omega⟩
theorem u64_of_wf {a : Int} (h : (Lit.int .u64 a).wf = true) : ∃ x : Nat, a = (x : Int) ∧ x < 18446744073709551616 := by
  simp only [Lit.wf, Bool.and_eq_true, decide_eq_true_eq] at h
  have hmin : IntKind.u64.min = 0 := rfl
  have hmax : IntKind.u64.max = 18446744073709551615 := rfl
  exact ⟨a.toNat, by omega, by omega⟩
theorem i64_of_wf {a : Int} (h : (Lit.int .i64 a).wf = true) : -9223372036854775808 ≤ a ∧ a ≤ 9223372036854775807 := by
  simp only [Lit.wf, Bool.and_eq_true, decide_eq_true_eq] at h
  have hmin : IntKind.i64.min = -9223372036854775808 := rfl
  have hmax : IntKind.i64.max = 9223372036854775807 := rfl
  omega
/-- A list of numbers that fit a byte is a list of bytes. -/
theorem bytes_of_wf (zs : List Int) (h : ∀ n ∈ zs, (Lit.int .u8 n).wf = true) : ∃ l : List UInt8, zs = l.map fun b => (b.toNat : Int) := by
  induction zs with
  | nil => exact ⟨[], rfl⟩
  | cons z zs ih =>
    obtain ⟨l, hl⟩ := ih fun n hn => h n (List.mem_cons_of_mem _ hn)
    obtain ⟨b, hb⟩ := u8_of_wf (h z (List.mem_cons_self ..))
    exact ⟨b :: l, by rw [hl, hb]; rfl⟩
/-- A []byte that came in: what the walks ask of it. -/
def ByteRow (w : World) (a : Option Addr) (len cap : Nat) (l : List UInt8) : Prop := l.length = len ∧ len ≤ cap ∧ cap ≤ maxLen ∧ RdC w a (u8v l)
theorem byteRow_of {P : Program} {H : Type} {enc : TypeId × Value → H} {W : World} {t e : TypeId} {a : Option Addr} {len cap : Nat} {d : DataW H} {p : List MemPlace} (ht : P.underlying t = some (.slice e)) (he : P.underlying e = some (.int .u8)) (hc : P.cellsOf e = 1)
    (h : DataW.Trod enc P W 0 (fun _ => true) true t (.slice a len cap) d p) : ∃ l, ByteRow W a len cap l := by
  obtain ⟨fuel, hf⟩ := h
  rcases open_ints ht he hc hf with ⟨hcs, _⟩ | ⟨x, l, c, zs, hcs, _, hl, hm, hz, _, hcell, hwz⟩
  · simp [Value.cells] at hcs
    obtain ⟨rfl, rfl, rfl⟩ := hcs
    exact ⟨[], rfl, Nat.le_refl _, by unfold maxLen; omega, RdC.nil _ _⟩
  · simp [Value.cells] at hcs
    obtain ⟨rfl, rfl, rfl⟩ := hcs
    obtain ⟨bs, rfl⟩ := bytes_of_wf zs hwz
    have hz' : bs.length = cap := by simpa using hz
    refine ⟨bs.take len, by simp; omega, hl, hm, ?_⟩
    rw [← u8v_take]
    refine RdC.take (fun j u hj => ⟨_, rfl, ?_⟩) len
    have hjl : j < bs.length := by have := (List.getElem?_eq_some_iff.1 hj).1; rwa [u8v_length] at this
    rw [u8v_get bs j hjl] at hj
    cases hj
    rw [hcell j (by simpa using hjl)]
    simp [hjl]
end Go.Proofs.YtcdnbidenaljlaaDoor
