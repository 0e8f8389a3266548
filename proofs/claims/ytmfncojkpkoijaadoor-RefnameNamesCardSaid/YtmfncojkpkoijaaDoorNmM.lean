/- Names of refs: what the examples ask for: a builder of arrays, ToUpper, Repeat; the examples reckoned. -/
import Derived.Test.YtmfncojkpkoijaaDoorNmJ
import Derived.Test.YtmfncojkpkoijaaDoorNmK
import Derived.Test.YtmfncojkpkoijaaDoorNmL
namespace Go.Proofs.YtmfncojkpkoijaaDoor
open Go.RowKit
set_option linter.unusedVariables false

theorem wpList_build_v {P : Program} {ops : Array Oper} {rest : List Oper} {o : Oper} {a : Act} {w : World} {Q : Exit → Act → World → Prop} (hgd : o.guard = none) (ty : TypeId) (args : Array (Nat × Operand)) (ho : o.op = .build ty args) (vs : Array (Nat × Value)) (he : args.map (fun x => (x.1, a.eval x.2)) = vs) (V : Array Value) (hr : (Instr.build ty vs).run P w = .ok (.agg V) w)
    (h : wpList P ops Q rest (a.put o.dst (.agg V)) w) : wpList P ops Q (o :: rest) a w := by
  refine wpList_plain hgd fun K hK => ?_
  unfold Oper.wp execOp
  simp only [ho, Sem.run_bind]
  rw [show (args.map fun x => (x.1, a.eval x.2)) = vs from he, hr]
  exact hK _ _ h
theorem upper_any (l : List UInt8) (hl : l.length ≤ 1000) (h : ∀ b ∈ l, b.toNat < 128) (w : World) :
    Calls Tryd.prog 28 #[.string (bstr l)] w fun e w' => e = .returned (.string (bstr (Lib.toUpperA l))) ∧ Below w.heap.size w w' :=
  Tryd.strings_ToUpper_ascii (bstr l) w (by rw [bstr_size]; omega) fun j b hb => h b (List.mem_of_getElem? hb)
theorem repeat_any (l : List UInt8) (c : Nat) (hc : l.length * c ≤ 100000) (hc2 : c ≤ 100000) (w : World) :
    Calls Tryd.prog 25 #[.string (bstr l), .int .i64 (c : Int)] w fun e w' => e = .returned (.string (bstr (Lib.repeatL l c))) ∧ Below w.heap.size w w' :=
  Tryd.strings_Repeat (bstr l) c w (by omega) (by rw [bstr_size]; omega)
def idN : List UInt8 := 171 :: 1 :: List.replicate 30 0
def mainL : List UInt8 := [109, 97, 105, 110]
def cN : List UInt8 := confL mainL idN
def badN : List (List UInt8) := [[], [126], [109, 97, 105, 110, 126], cN ++ [48], cN.take 68, 126 :: textB idN, [97, 32, 98, 126] ++ textB idN, Lib.toUpperA cN, [109, 97, 105, 110, 126, 126] ++ textB idN, ([109, 97, 105, 110, 126] ++ textB idN) ++ [126]]
def longL : List UInt8 := Lib.repeatL [97] 100
theorem badN_ok : (badN.all fun n => decide (splL n = ([], zeros, false, 40)) && decide (n.length ≤ 1000)) = true := by decide +kernel
theorem cN_len : cN.length = 69 := by decide +kernel
theorem cN_ascii : ∀ b ∈ cN, b.toNat < 128 := by decide +kernel
theorem idN_built : ∀ w, (Instr.build 30 #[(0, .int .u8 171), (1, .int .u8 1)]).run Tryd.prog w = .ok (.agg (idC idN)) w := fun _ => by kernel_rfl
end Go.Proofs.YtmfncojkpkoijaaDoor
