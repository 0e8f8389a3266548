/- slices.SortFunc at ids, by hash.Compare. -/
import Derived.Test.YtcdnbidenaljlaaSetK
import Derived.Test.YtcdnbidenaljlaaSort
import Derived.Shelf.SlSortCmp.WholeK
namespace Go.Proofs.Ytcdnbidenaljlaa
open Go.RowKit Go.Sort Go.Lib Go.Shelf

theorem sortids_any (blk off cap : Nat) (d : Array Id32) (w : World) (hH : HoldsK encId 32 w blk off d) (hblk : blk < w.heap.size) (hsz : d.size < 4611686018427387904) :
    Calls Try.prog 22 #[.slice (some ⟨blk, off, none⟩) d.size cap, .func (.func 9) #[] #[]] w fun e w' =>
      e = .returned (.tuple #[]) ∧ ∃ d' n os, PermIn 0 d.size d d' ∧ SortedIn (Go.Proofs.ltOf cfId) 0 d.size d' ∧ w' = Go.Proofs.sortWorldK encId 32 w blk off n d' os :=
  Go.Proofs.AnyQ.slices_SortFunc Go.Proofs.Try.sortId 32 Try.isAgg23 Try.sizeOf23 encId encId_len encId_one cfId swoId 9 #[] blk off cap d w (enters_of Try.func9 (by kernel_rfl) rfl) (cmpLaysId blk off d.size w) hH hblk hsz
end Go.Proofs.Ytcdnbidenaljlaa
