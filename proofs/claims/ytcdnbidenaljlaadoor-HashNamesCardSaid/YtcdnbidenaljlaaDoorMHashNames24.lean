/- slices.SortFunc at ids, by hash.Compare. -/
import Derived.Test.YtcdnbidenaljlaaDoorMHashNames22
import Derived.Test.YtcdnbidenaljlaaDoorSort
import Derived.Shelf.SlSortCmp.WholeK
namespace Go.Proofs.YtcdnbidenaljlaaDoor
open Go.RowKit Go.Sort Go.Lib Go.Shelf

theorem sortids_any (blk off cap : Nat) (d : Array Id32) (w : World) (hH : HoldsK encId 32 w blk off d) (hblk : blk < w.heap.size) (hsz : d.size < 4611686018427387904) :
    Calls Tryd.prog 32 #[.slice (some ⟨blk, off, none⟩) d.size cap, .func (.func 16) #[] #[]] w fun e w' =>
      e = .returned (.tuple #[]) ∧ ∃ d' n os, PermIn 0 d.size d d' ∧ SortedIn (Go.Proofs.ltOf cfId) 0 d.size d' ∧ w' = Go.Proofs.sortWorldK encId 32 w blk off n d' os :=
  Go.Proofs.AnyQ.slices_SortFunc Go.Proofs.Tryd.sortId 32 Tryd.isAgg25 Tryd.sizeOf25 encId encId_len encId_one cfId swoId 16 #[] blk off cap d w (enters_of Tryd.func16 (by kernel_rfl) rfl) (cmpLaysId blk off d.size w) hH hblk hsz
end Go.Proofs.YtcdnbidenaljlaaDoor
