/- Rows of bits, written as a number: what has been done in a region. -/
import Derived.Test.YtonfmnohmigjpaaWLast
namespace Go.Proofs.Ytonfmnohmigjpaa.P
def bL : Nat → Nat → List Bool
  | 0, _ => []
  | n + 1, m => (m % 2 == 1) :: bL n (m / 2)
/-- The first n bits of m, the lowest first. -/
def bA (n m : Nat) : Array Bool := (bL n m).toArray
end Go.Proofs.Ytonfmnohmigjpaa.P
