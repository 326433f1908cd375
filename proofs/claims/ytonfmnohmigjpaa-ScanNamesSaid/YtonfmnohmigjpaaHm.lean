/- At a row's first world the library's own variable (internal/bytealg.MaxLen) holds a number. -/
import Derived.Test.YtonfmnohmigjpaaGD
import Derived.HandedShaped
import Derived.Shelf.Vars
namespace Go.Proofs.Ytonfmnohmigjpaa.P
open Go.RowKit
theorem max_of_shaped {W : World} (h : W.ShapedOpen Try.prog) : HasMax W :=
  cell_of_shapedOpen_int (zero := #[.int .i64 0]) (t := 3) h (of_decide_eq_true (by kernel_rfl)) (by kernel_rfl) rfl (by kernel_rfl) (by kernel_rfl) Try.underlying3
end Go.Proofs.Ytonfmnohmigjpaa.P
