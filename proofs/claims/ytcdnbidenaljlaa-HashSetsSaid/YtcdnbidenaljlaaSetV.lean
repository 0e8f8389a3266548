/- The law HashSets, walked. -/
import Derived.Test.YtcdnbidenaljlaaSetU
import Derived.Test.YtcdnbidenaljlaaSetQ
namespace Go.Proofs.Ytcdnbidenaljlaa
open Go.RowKit

theorem setC : SetC := fun A n c L hL h32 hn w hr => set_any A n c L hL h32 hn w hr
theorem hashSets_walk (A : Option Addr) (n c : Nat) (L : List (List UInt8)) (A2 : Option Addr) (n2 c2 : Nat) (M : List (List UInt8)) (id : List UInt8) (w : World) (h0 : IdRow w A n c L) (h1 : IdRow w A2 n2 c2 M) (hid : id.length = 32) :
    Calls Try.prog 4 #[.slice A n c, .slice A2 n2 c2, .agg (idC id)] w fun e w' => e = .returned (.bool true) ∧ Below w.heap.size w w' :=
  hashSets_list setC A n c L A2 n2 c2 M id w h0 h1 hid
end Go.Proofs.Ytcdnbidenaljlaa
