/- Closed facts of the translated program that every row asks for. -/
import Derived.Test.YtonfmnohmigjpaaRows
import Derived.ProofKit
import Derived.JoinedOf
namespace Go.Proofs.Ytonfmnohmigjpaa.P
/-! Closed facts of the program that no law changes (each some fifty seconds of the kernel's: the translation's head is long). -/
theorem fMay : Try.pinned.checked.prog.mayEnter = true := by kernel_rfl
theorem fLift : Try.pinned.checked.prog.liftsFinal = false := by kernel_rfl
theorem fMake : (Try.pinned.checked.prog.make == some Make.cut) = true := by kernel_rfl
theorem fLaid : laidOutB Try.pinned.checked.prog = true := by kernel_rfl
theorem fRowed : mapsRowed Try.pinned.checked.prog = true := by kernel_rfl
theorem fHeard : Try.pinned.checked.prog.stopsHeard = true := by kernel_rfl
theorem own : ownKnob Try.prog.godebug = none := by kernel_rfl
theorem laidOut : laidOutB Try.prog = true := fLaid
end Go.Proofs.Ytonfmnohmigjpaa.P
