/- The plain law of ScanOnes: the reference answers as scan does. -/
import Derived.Test.YtonfmnohmigjpaaF13
import Derived.Test.YtonfmnohmigjpaaGR
namespace Go.Proofs.Ytonfmnohmigjpaa.Pure
open Go.RowKit Go.Proofs.Ytonfmnohmigjpaa.P Go.Proofs.YtonfmnohmigjpaaW.PrintWords Go.Proofs.YtonfmnohmigjpaaW.PrintLast
theorem ScanOnes : regletlaw02_ScanOnes.Pure := by
  intro a b _ _
  have key : Ev (fun k => regletlaw02_ScanOnes.f k a b) true := by
    unfold regletlaw02_ScanOnes.f
    by_cases h : (a.size : Int) > 500
    · exact Ev.done1 fun k => by rw [if_pos h, regletlaw02_ScanOnes.j0, if_pos rfl]
    · by_cases h2 : (b.size : Int) > 500
      · exact Ev.done1 fun k => by rw [if_neg h, regletlaw02_ScanOnes.j0, if_pos (decide_eq_true h2)]
      · have ha : a.size ≤ 500 := by omega
        have hb : b.size ≤ 500 := by omega
        have e1 : scan_One.f a = some (oneT a) := by unfold scan_One.f; rw [if_pos (by omega)]
        have e2 : scan_Fuses.f a b = some (fuseT a b) := by unfold scan_Fuses.f; rw [if_pos (by omega)]
        have e3 : (decide ((b.size : Int) > 500)) = false := decide_eq_false h2
        refine Ev.steps1 (f := fun k => (regletref02_One.f k a).bind fun bt855 => ((scan_Fuses.f a b).bind fun bt857 => ((regletref02_Fuses.f k a b).bind fun bt859 => (if (oneT a).1 = bt855.1 then (if ((oneT a).2 == bt855.2) = true then (if (bt857.1 == bt859.1) = true then (some (bt857.2 == bt859.2)) else (some false)) else (some false)) else (some false))))) (fun k => by
          rw [if_neg h, e3, regletlaw02_ScanOnes.j0, if_neg (by decide), e1, Option.bind_some]) (Ev.bind (rone_f a (by omega)) ?_)
        refine Ev.congr (fun k => by rw [e2, Option.bind_some]) (Ev.bind (rfuse_f a b (by omega)) ?_)
        refine Ev.congr (fun k => ?_) (Ev.now _)
        rw [if_pos rfl, beq_self_eq_true, if_pos rfl, beq_self_eq_true, if_pos rfl, beq_self_eq_true]
  exact key.rounds
end Go.Proofs.Ytonfmnohmigjpaa.Pure
