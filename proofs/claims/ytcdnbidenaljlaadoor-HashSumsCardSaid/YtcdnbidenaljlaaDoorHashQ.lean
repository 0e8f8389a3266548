/- Ids of texts: the reference's Parse. -/
import Derived.Test.YtcdnbidenaljlaaDoorHashP
namespace Go.Proofs.YtcdnbidenaljlaaDoor
open Go.RowKit

/-- 'T{}' of an array type: its zero. -/
theorem run_build_z {P : Program} (W : World) (ty e : TypeId) (n : Nat) (Z : Array Value) (hz : (P.info? ty).bind (fun i => i.zero.map Value.cells) = some Z) (ht : P.underlying ty = some (.array n e)) (hs : ∃ z, (sizeOf e).run P W = .ok z W) : (Instr.build ty #[]).run P W = .ok (.agg Z) W := by
  obtain ⟨z, hs⟩ := hs
  cases hq : P.info? ty with
  | none => simp [hq] at hz
  | some i =>
    cases hq2 : i.zero with
    | none => simp [hq, hq2] at hz
    | some v =>
      have hv : v.cells = Z := by simpa [hq, hq2] using hz
      simp [Instr.build, zeroValue, typeInfo, hq, hq2, run_underlying ht, hs, Instr.fill, hv]
theorem wpList_build_z {P : Program} {ops : Array Oper} {rest : List Oper} {o : Oper} {a : Act} {w : World} {Q : Exit → Act → World → Prop} (hgd : o.guard = none) (ty : TypeId) (ho : o.op = .build ty #[]) (Z : Array Value) (hr : (Instr.build ty #[]).run P w = .ok (.agg Z) w)
    (h : wpList P ops Q rest (a.put o.dst (.agg Z)) w) : wpList P ops Q (o :: rest) a w := by
  refine wpList_plain hgd fun K hK => ?_
  unfold Oper.wp execOp
  simp only [ho, Array.map_empty, Sem.run_bind, hr]
  exact hK _ _ h
theorem str_index (W : World) (s : List UInt8) (j : Nat) (h : j < s.length) (i : Int) (hi : i = j) : (Instr.index 9 (.string (bstr s)) (.int .i64 i)).run Tryd.prog W = .ok (.int .u8 (s[j].toNat : Int)) W := by
  subst hi
  have hsz : (bstr s).size = s.length := bstr_size s
  rw [run_index_string (P := Tryd.prog) W 9 _ .i64 j Tryd.underlying9, dif_pos ⟨by omega, by rw [hsz]; omega⟩]
  rfl
theorem okB_of {s : List UInt8} (hl : s.length = 64) (h : ∀ j (hj : j < 64), 0 ≤ digN (s[j]'(by omega))) : okB s = true := by
  unfold okB
  rw [Bool.and_eq_true, List.all_eq_true]
  refine ⟨by simp [hl], fun c hc => ?_⟩
  obtain ⟨j, hj, rfl⟩ := List.getElem_of_mem hc
  simpa using h j (by omega)
theorem okB_not {s : List UInt8} (j : Nat) (hj : j < s.length) (h : digN s[j] < 0) : ¬ okB s = true := by
  unfold okB
  rw [Bool.and_eq_true, List.all_eq_true]
  rintro ⟨_, h2⟩
  have := h2 s[j] (List.getElem_mem _)
  simp at this
  omega
end Go.Proofs.YtcdnbidenaljlaaDoor
