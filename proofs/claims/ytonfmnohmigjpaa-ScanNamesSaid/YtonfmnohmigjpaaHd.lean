/- The plain function of scan.Bare: what is left of tokens without comments and line ends. -/
import Derived.Test.YtonfmnohmigjpaaK0
import Derived.Lib.Hide
namespace Go.Proofs.Ytonfmnohmigjpaa.P
open Go.RowKit Go.Proofs.YtonfmnohmigjpaaW.PrintWords Go.Proofs.YtonfmnohmigjpaaW.PrintLast

theorem w64_succ (i n : Nat) (h : i < n) (hn : n ≤ 140737488351232) : wrap64 ((i : Int) + 1) = ((i + 1 : Nat) : Int) := by
  unfold wrap64; omega

/-! ### scan.Bare, as a plain function -/
def isGap (t : S26) : Bool := t.f0 == 8 || t.f0 == 9
def bareF : Bool → List S26 → List S26
  | _, [] => []
  | left, t :: l => if isGap t then bareF true l else ⟨t.f0, t.f1, t.f2, t.f3, t.f4 || left⟩ :: bareF false l
def scan_Bare.f (l : List S26) : Option (List S26) := if l.length ≤ 2932031007400 then some (bareF false l) else none
theorem bareF_length (b : Bool) (l : List S26) : (bareF b l).length ≤ l.length := by
  induction l generalizing b with
  | nil => simp [bareF]
  | cons t l ih =>
    unfold bareF
    split
    · have := ih true; simp; omega
    · have := ih false; simp; omega
end Go.Proofs.Ytonfmnohmigjpaa.P
