-- Written by wip/pr.py (the kit's printer, driven for functions that are proved by hand beside it).
import Derived.Test.YtonfmnohmigjpaaF0
import Derived.Test.YtonfmnohmigjpaaFA
import Derived.Test.YtonfmnohmigjpaaG41
import Derived.Test.YtonfmnohmigjpaaG42
import Derived.Test.YtonfmnohmigjpaaG45
import Derived.Test.YtonfmnohmigjpaaG47
namespace Go.Proofs.Ytonfmnohmigjpaa.P
open Go.RowKit Go.Proofs.YtonfmnohmigjpaaW.PrintWords Go.Proofs.YtonfmnohmigjpaaW.PrintLast Go.Proofs.YtonfmnohmigjpaaW.PrintMore
attribute [local go_sem] max2_int min2_int max_two min_two max_three min_three max_four min_four   -- for this text's walks alone
set_option linter.unusedVariables false
set_option linter.unusedSimpArgs false

/-! ### regletlaw01_PhysTells: function 9 -/
mutual
def regletlaw01_PhysTells.j0 : Nat → ByteArray → List (S55) → List (S55) → List (S70) → List (S70) → Bool → Option (Bool)
  | 0, _, _, _, _, _, _ => none
  | k + 1, x0, x3, x5, x11, x13, x89 => if x89 = true then (some false) else (regletlaw01_PhysTells.l0 k x0 x3 x5 x11 x13 0)
def regletlaw01_PhysTells.l0 : Nat → ByteArray → List (S55) → List (S55) → List (S70) → List (S70) → Int → Option (Bool)
  | 0, _, _, _, _, _, _ => none
  | k + 1, x0, x3, x5, x11, x13, x16 => if x16 < (x3.length : Int) then (if 0 ≤ x16 then (regletlaw01_PhysTells.l0 k x0 (x3.set (x16 : Int).toNat (⟨113, (-7), 0⟩ : S55)) x5 x11 x13 (wrap64 (x16 + 1))) else (none)) else (regletlaw01_PhysTells.l1 k x0 x5 x11 x13 0)
def regletlaw01_PhysTells.l1 : Nat → ByteArray → List (S55) → List (S70) → List (S70) → Int → Option (Bool)
  | 0, _, _, _, _, _ => none
  | k + 1, x0, x5, x11, x13, x17 => if x17 < (x11.length : Int) then (if 0 ≤ x17 then (regletlaw01_PhysTells.l1 k x0 x5 (x11.set (x17 : Int).toNat (⟨(-7), 0⟩ : S70)) x13 (wrap64 (x17 + 1))) else (none)) else ((phys_Chars.f x0).bind fun bt408 => ((phys_Splices.f x0).bind fun bt412 => ((regletref01_SameChars.f k bt408.1 x5).bind fun t416 => (if t416 = true then ((regletref01_SameSpans.f k bt412.1 x13).bind fun t417 => (some t417)) else (some false)))))
end
def regletlaw01_PhysTells.f (k : Nat) (a0 : ByteArray) : Option (Bool) := (phys_Chars.f a0).bind fun bt382 => ((regletref01_Chars.f k a0).bind fun bt386 => ((phys_Logical.f a0).bind fun bt390 => ((regletref01_Logical.f k a0).bind fun bt392 => ((phys_Splices.f a0).bind fun bt394 => ((regletref01_Splices.f k a0).bind fun bt398 => ((phys_Check.f a0).bind fun t402 => ((regletref01_SameChars.f k bt382.1 bt386.1).bind fun t403 => (if t403 = true then (if bt382.2 = bt386.2 then (if bt390.1.toList = bt392.1.toList then (if bt390.2 = bt392.2 then ((regletref01_SameSpans.f k bt394.1 bt398.1).bind fun t404 => (if t404 = true then (if bt394.2 = bt398.2 then ((regletref01_Check.f k a0).bind fun t405 => (regletlaw01_PhysTells.j0 k a0 bt382.1 bt386.1 bt394.1 bt398.1 (t402 != t405))) else (regletlaw01_PhysTells.j0 k a0 bt382.1 bt386.1 bt394.1 bt398.1 true)) else (regletlaw01_PhysTells.j0 k a0 bt382.1 bt386.1 bt394.1 bt398.1 true))) else (regletlaw01_PhysTells.j0 k a0 bt382.1 bt386.1 bt394.1 bt398.1 true)) else (regletlaw01_PhysTells.j0 k a0 bt382.1 bt386.1 bt394.1 bt398.1 true)) else (regletlaw01_PhysTells.j0 k a0 bt382.1 bt386.1 bt394.1 bt398.1 true)) else (regletlaw01_PhysTells.j0 k a0 bt382.1 bt386.1 bt394.1 bt398.1 true)))))))))
theorem regletlaw01_PhysTells.mono_l : ∀ k, (∀ y0 y1 y2 y3 y4 y5, LeO (regletlaw01_PhysTells.j0 k y0 y1 y2 y3 y4 y5) (regletlaw01_PhysTells.j0 (k + 1) y0 y1 y2 y3 y4 y5)) ∧ (∀ y0 y1 y2 y3 y4 y5, LeO (regletlaw01_PhysTells.l0 k y0 y1 y2 y3 y4 y5) (regletlaw01_PhysTells.l0 (k + 1) y0 y1 y2 y3 y4 y5)) ∧ (∀ y0 y1 y2 y3 y4, LeO (regletlaw01_PhysTells.l1 k y0 y1 y2 y3 y4) (regletlaw01_PhysTells.l1 (k + 1) y0 y1 y2 y3 y4))
  | 0 => ⟨fun _ _ _ _ _ _ r h => by simp [regletlaw01_PhysTells.j0] at h, fun _ _ _ _ _ _ r h => by simp [regletlaw01_PhysTells.l0] at h, fun _ _ _ _ _ r h => by simp [regletlaw01_PhysTells.l1] at h⟩
  | k + 1 => by
    obtain ⟨ih0, ih1, ih2⟩ := regletlaw01_PhysTells.mono_l k
    refine ⟨?_, ?_, ?_⟩
    · intro y0 y1 y2 y3 y4 y5
      unfold regletlaw01_PhysTells.j0
      repeat' first
      | (with_reducible exact ih0 _ _ _ _ _ _)
      | (with_reducible exact ih1 _ _ _ _ _ _)
      | (with_reducible exact ih2 _ _ _ _ _)
      | (with_reducible exact regletref01_Chars.mono _ _)
      | (with_reducible exact regletref01_Check.mono _ _)
      | (with_reducible exact regletref01_Logical.mono _ _)
      | (with_reducible exact regletref01_SameChars.mono _ _ _)
      | (with_reducible exact regletref01_SameSpans.mono _ _ _)
      | (with_reducible exact regletref01_Splices.mono _ _)
      | (with_reducible exact LeO.refl _)
      | (with_reducible exact LeO.none _)
      | (with_reducible refine LeO.ite ?_ ?_)
      | (with_reducible refine LeO.bind ?_ (fun _ => ?_))
      | exact ih0 _ _ _ _ _ _
      | exact ih1 _ _ _ _ _ _
      | exact ih2 _ _ _ _ _
      | exact regletref01_Chars.mono _ _
      | exact regletref01_Check.mono _ _
      | exact regletref01_Logical.mono _ _
      | exact regletref01_SameChars.mono _ _ _
      | exact regletref01_SameSpans.mono _ _ _
      | exact regletref01_Splices.mono _ _
      | exact LeO.none _
      | refine LeO.ite ?_ ?_
      | refine LeO.bind ?_ (fun _ => ?_)
    · intro y0 y1 y2 y3 y4 y5
      unfold regletlaw01_PhysTells.l0
      repeat' first
      | (with_reducible exact ih0 _ _ _ _ _ _)
      | (with_reducible exact ih1 _ _ _ _ _ _)
      | (with_reducible exact ih2 _ _ _ _ _)
      | (with_reducible exact regletref01_Chars.mono _ _)
      | (with_reducible exact regletref01_Check.mono _ _)
      | (with_reducible exact regletref01_Logical.mono _ _)
      | (with_reducible exact regletref01_SameChars.mono _ _ _)
      | (with_reducible exact regletref01_SameSpans.mono _ _ _)
      | (with_reducible exact regletref01_Splices.mono _ _)
      | (with_reducible exact LeO.refl _)
      | (with_reducible exact LeO.none _)
      | (with_reducible refine LeO.ite ?_ ?_)
      | (with_reducible refine LeO.bind ?_ (fun _ => ?_))
      | exact ih0 _ _ _ _ _ _
      | exact ih1 _ _ _ _ _ _
      | exact ih2 _ _ _ _ _
      | exact regletref01_Chars.mono _ _
      | exact regletref01_Check.mono _ _
      | exact regletref01_Logical.mono _ _
      | exact regletref01_SameChars.mono _ _ _
      | exact regletref01_SameSpans.mono _ _ _
      | exact regletref01_Splices.mono _ _
      | exact LeO.none _
      | refine LeO.ite ?_ ?_
      | refine LeO.bind ?_ (fun _ => ?_)
    · intro y0 y1 y2 y3 y4
      unfold regletlaw01_PhysTells.l1
      repeat' first
      | (with_reducible exact ih0 _ _ _ _ _ _)
      | (with_reducible exact ih1 _ _ _ _ _ _)
      | (with_reducible exact ih2 _ _ _ _ _)
      | (with_reducible exact regletref01_Chars.mono _ _)
      | (with_reducible exact regletref01_Check.mono _ _)
      | (with_reducible exact regletref01_Logical.mono _ _)
      | (with_reducible exact regletref01_SameChars.mono _ _ _)
      | (with_reducible exact regletref01_SameSpans.mono _ _ _)
      | (with_reducible exact regletref01_Splices.mono _ _)
      | (with_reducible exact LeO.refl _)
      | (with_reducible exact LeO.none _)
      | (with_reducible refine LeO.ite ?_ ?_)
      | (with_reducible refine LeO.bind ?_ (fun _ => ?_))
      | exact ih0 _ _ _ _ _ _
      | exact ih1 _ _ _ _ _ _
      | exact ih2 _ _ _ _ _
      | exact regletref01_Chars.mono _ _
      | exact regletref01_Check.mono _ _
      | exact regletref01_Logical.mono _ _
      | exact regletref01_SameChars.mono _ _ _
      | exact regletref01_SameSpans.mono _ _ _
      | exact regletref01_Splices.mono _ _
      | exact LeO.none _
      | refine LeO.ite ?_ ?_
      | refine LeO.bind ?_ (fun _ => ?_)
theorem regletlaw01_PhysTells.mono : ∀ a0 k, LeO (regletlaw01_PhysTells.f k a0) (regletlaw01_PhysTells.f (k + 1) a0) := by
  intro a0 k
  obtain ⟨ih0, ih1, ih2⟩ := regletlaw01_PhysTells.mono_l k
  unfold regletlaw01_PhysTells.f
  repeat' first
      | (with_reducible exact ih0 _ _ _ _ _ _)
      | (with_reducible exact ih1 _ _ _ _ _ _)
      | (with_reducible exact ih2 _ _ _ _ _)
      | (with_reducible exact regletref01_Chars.mono _ _)
      | (with_reducible exact regletref01_Check.mono _ _)
      | (with_reducible exact regletref01_Logical.mono _ _)
      | (with_reducible exact regletref01_SameChars.mono _ _ _)
      | (with_reducible exact regletref01_SameSpans.mono _ _ _)
      | (with_reducible exact regletref01_Splices.mono _ _)
      | (with_reducible exact LeO.refl _)
      | (with_reducible exact LeO.none _)
      | (with_reducible refine LeO.ite ?_ ?_)
      | (with_reducible refine LeO.bind ?_ (fun _ => ?_))
      | exact ih0 _ _ _ _ _ _
      | exact ih1 _ _ _ _ _ _
      | exact ih2 _ _ _ _ _
      | exact regletref01_Chars.mono _ _
      | exact regletref01_Check.mono _ _
      | exact regletref01_Logical.mono _ _
      | exact regletref01_SameChars.mono _ _ _
      | exact regletref01_SameSpans.mono _ _ _
      | exact regletref01_Splices.mono _ _
      | exact LeO.none _
      | refine LeO.ite ?_ ?_
      | refine LeO.bind ?_ (fun _ => ?_)
set_option maxHeartbeats 8000000 in
set_option maxRecDepth 100000 in
theorem regletlaw01_PhysTells.calls (k : Nat) (a0 : ByteArray) (r : Bool) (w : World) (h : regletlaw01_PhysTells.f k a0 = some r) :
    Calls Try.prog 9 #[.string a0] w fun e w' => e = .returned (.bool r) ∧ Below w.heap.size w w' := by
  have hu55 := Try.underlying55
  have hu70 := Try.underlying70
  have HB := Aside0.mk (Below.refl w.heap.size w)
  have H : ((phys_Chars.f a0).bind fun bt382 => ((regletref01_Chars.f k a0).bind fun bt386 => ((phys_Logical.f a0).bind fun bt390 => ((regletref01_Logical.f k a0).bind fun bt392 => ((phys_Splices.f a0).bind fun bt394 => ((regletref01_Splices.f k a0).bind fun bt398 => ((phys_Check.f a0).bind fun t402 => ((regletref01_SameChars.f k bt382.1 bt386.1).bind fun t403 => (if t403 = true then (if bt382.2 = bt386.2 then (if bt390.1.toList = bt392.1.toList then (if bt390.2 = bt392.2 then ((regletref01_SameSpans.f k bt394.1 bt398.1).bind fun t404 => (if t404 = true then (if bt394.2 = bt398.2 then ((regletref01_Check.f k a0).bind fun t405 => (regletlaw01_PhysTells.j0 k a0 bt382.1 bt386.1 bt394.1 bt398.1 (t402 != t405))) else (regletlaw01_PhysTells.j0 k a0 bt382.1 bt386.1 bt394.1 bt398.1 true)) else (regletlaw01_PhysTells.j0 k a0 bt382.1 bt386.1 bt394.1 bt398.1 true))) else (regletlaw01_PhysTells.j0 k a0 bt382.1 bt386.1 bt394.1 bt398.1 true)) else (regletlaw01_PhysTells.j0 k a0 bt382.1 bt386.1 bt394.1 bt398.1 true)) else (regletlaw01_PhysTells.j0 k a0 bt382.1 bt386.1 bt394.1 bt398.1 true)) else (regletlaw01_PhysTells.j0 k a0 bt382.1 bt386.1 bt394.1 bt398.1 true)))))))))) = some r := h
  clear h
  replace H := Option.bind_eq_some_iff.mp H
  obtain ⟨⟨t382, t383⟩, A20, H⟩ := H
  replace H : ((regletref01_Chars.f k a0).bind fun bt386 => ((phys_Logical.f a0).bind fun bt390 => ((regletref01_Logical.f k a0).bind fun bt392 => ((phys_Splices.f a0).bind fun bt394 => ((regletref01_Splices.f k a0).bind fun bt398 => ((phys_Check.f a0).bind fun t402 => ((regletref01_SameChars.f k t382 bt386.1).bind fun t403 => (if t403 = true then (if t383 = bt386.2 then (if bt390.1.toList = bt392.1.toList then (if bt390.2 = bt392.2 then ((regletref01_SameSpans.f k bt394.1 bt398.1).bind fun t404 => (if t404 = true then (if bt394.2 = bt398.2 then ((regletref01_Check.f k a0).bind fun t405 => (regletlaw01_PhysTells.j0 k a0 t382 bt386.1 bt394.1 bt398.1 (t402 != t405))) else (regletlaw01_PhysTells.j0 k a0 t382 bt386.1 bt394.1 bt398.1 true)) else (regletlaw01_PhysTells.j0 k a0 t382 bt386.1 bt394.1 bt398.1 true))) else (regletlaw01_PhysTells.j0 k a0 t382 bt386.1 bt394.1 bt398.1 true)) else (regletlaw01_PhysTells.j0 k a0 t382 bt386.1 bt394.1 bt398.1 true)) else (regletlaw01_PhysTells.j0 k a0 t382 bt386.1 bt394.1 bt398.1 true)) else (regletlaw01_PhysTells.j0 k a0 t382 bt386.1 bt394.1 bt398.1 true))))))))) = some r := H
  have A2 := Aside0.mk A20
  clear A20
  replace H := Option.bind_eq_some_iff.mp H
  obtain ⟨⟨t386, t387⟩, A30, H⟩ := H
  replace H : ((phys_Logical.f a0).bind fun bt390 => ((regletref01_Logical.f k a0).bind fun bt392 => ((phys_Splices.f a0).bind fun bt394 => ((regletref01_Splices.f k a0).bind fun bt398 => ((phys_Check.f a0).bind fun t402 => ((regletref01_SameChars.f k t382 t386).bind fun t403 => (if t403 = true then (if t383 = t387 then (if bt390.1.toList = bt392.1.toList then (if bt390.2 = bt392.2 then ((regletref01_SameSpans.f k bt394.1 bt398.1).bind fun t404 => (if t404 = true then (if bt394.2 = bt398.2 then ((regletref01_Check.f k a0).bind fun t405 => (regletlaw01_PhysTells.j0 k a0 t382 t386 bt394.1 bt398.1 (t402 != t405))) else (regletlaw01_PhysTells.j0 k a0 t382 t386 bt394.1 bt398.1 true)) else (regletlaw01_PhysTells.j0 k a0 t382 t386 bt394.1 bt398.1 true))) else (regletlaw01_PhysTells.j0 k a0 t382 t386 bt394.1 bt398.1 true)) else (regletlaw01_PhysTells.j0 k a0 t382 t386 bt394.1 bt398.1 true)) else (regletlaw01_PhysTells.j0 k a0 t382 t386 bt394.1 bt398.1 true)) else (regletlaw01_PhysTells.j0 k a0 t382 t386 bt394.1 bt398.1 true)))))))) = some r := H
  have A3 := Aside0.mk A30
  clear A30
  replace H := Option.bind_eq_some_iff.mp H
  obtain ⟨⟨t390, t391⟩, A40, H⟩ := H
  replace H : ((regletref01_Logical.f k a0).bind fun bt392 => ((phys_Splices.f a0).bind fun bt394 => ((regletref01_Splices.f k a0).bind fun bt398 => ((phys_Check.f a0).bind fun t402 => ((regletref01_SameChars.f k t382 t386).bind fun t403 => (if t403 = true then (if t383 = t387 then (if t390.toList = bt392.1.toList then (if t391 = bt392.2 then ((regletref01_SameSpans.f k bt394.1 bt398.1).bind fun t404 => (if t404 = true then (if bt394.2 = bt398.2 then ((regletref01_Check.f k a0).bind fun t405 => (regletlaw01_PhysTells.j0 k a0 t382 t386 bt394.1 bt398.1 (t402 != t405))) else (regletlaw01_PhysTells.j0 k a0 t382 t386 bt394.1 bt398.1 true)) else (regletlaw01_PhysTells.j0 k a0 t382 t386 bt394.1 bt398.1 true))) else (regletlaw01_PhysTells.j0 k a0 t382 t386 bt394.1 bt398.1 true)) else (regletlaw01_PhysTells.j0 k a0 t382 t386 bt394.1 bt398.1 true)) else (regletlaw01_PhysTells.j0 k a0 t382 t386 bt394.1 bt398.1 true)) else (regletlaw01_PhysTells.j0 k a0 t382 t386 bt394.1 bt398.1 true))))))) = some r := H
  have A4 := Aside0.mk A40
  clear A40
  replace H := Option.bind_eq_some_iff.mp H
  obtain ⟨⟨t392, t393⟩, A50, H⟩ := H
  replace H : ((phys_Splices.f a0).bind fun bt394 => ((regletref01_Splices.f k a0).bind fun bt398 => ((phys_Check.f a0).bind fun t402 => ((regletref01_SameChars.f k t382 t386).bind fun t403 => (if t403 = true then (if t383 = t387 then (if t390.toList = t392.toList then (if t391 = t393 then ((regletref01_SameSpans.f k bt394.1 bt398.1).bind fun t404 => (if t404 = true then (if bt394.2 = bt398.2 then ((regletref01_Check.f k a0).bind fun t405 => (regletlaw01_PhysTells.j0 k a0 t382 t386 bt394.1 bt398.1 (t402 != t405))) else (regletlaw01_PhysTells.j0 k a0 t382 t386 bt394.1 bt398.1 true)) else (regletlaw01_PhysTells.j0 k a0 t382 t386 bt394.1 bt398.1 true))) else (regletlaw01_PhysTells.j0 k a0 t382 t386 bt394.1 bt398.1 true)) else (regletlaw01_PhysTells.j0 k a0 t382 t386 bt394.1 bt398.1 true)) else (regletlaw01_PhysTells.j0 k a0 t382 t386 bt394.1 bt398.1 true)) else (regletlaw01_PhysTells.j0 k a0 t382 t386 bt394.1 bt398.1 true)))))) = some r := H
  have A5 := Aside0.mk A50
  clear A50
  replace H := Option.bind_eq_some_iff.mp H
  obtain ⟨⟨t394, t395⟩, A60, H⟩ := H
  replace H : ((regletref01_Splices.f k a0).bind fun bt398 => ((phys_Check.f a0).bind fun t402 => ((regletref01_SameChars.f k t382 t386).bind fun t403 => (if t403 = true then (if t383 = t387 then (if t390.toList = t392.toList then (if t391 = t393 then ((regletref01_SameSpans.f k t394 bt398.1).bind fun t404 => (if t404 = true then (if t395 = bt398.2 then ((regletref01_Check.f k a0).bind fun t405 => (regletlaw01_PhysTells.j0 k a0 t382 t386 t394 bt398.1 (t402 != t405))) else (regletlaw01_PhysTells.j0 k a0 t382 t386 t394 bt398.1 true)) else (regletlaw01_PhysTells.j0 k a0 t382 t386 t394 bt398.1 true))) else (regletlaw01_PhysTells.j0 k a0 t382 t386 t394 bt398.1 true)) else (regletlaw01_PhysTells.j0 k a0 t382 t386 t394 bt398.1 true)) else (regletlaw01_PhysTells.j0 k a0 t382 t386 t394 bt398.1 true)) else (regletlaw01_PhysTells.j0 k a0 t382 t386 t394 bt398.1 true))))) = some r := H
  have A6 := Aside0.mk A60
  clear A60
  replace H := Option.bind_eq_some_iff.mp H
  obtain ⟨⟨t398, t399⟩, A70, H⟩ := H
  replace H : ((phys_Check.f a0).bind fun t402 => ((regletref01_SameChars.f k t382 t386).bind fun t403 => (if t403 = true then (if t383 = t387 then (if t390.toList = t392.toList then (if t391 = t393 then ((regletref01_SameSpans.f k t394 t398).bind fun t404 => (if t404 = true then (if t395 = t399 then ((regletref01_Check.f k a0).bind fun t405 => (regletlaw01_PhysTells.j0 k a0 t382 t386 t394 t398 (t402 != t405))) else (regletlaw01_PhysTells.j0 k a0 t382 t386 t394 t398 true)) else (regletlaw01_PhysTells.j0 k a0 t382 t386 t394 t398 true))) else (regletlaw01_PhysTells.j0 k a0 t382 t386 t394 t398 true)) else (regletlaw01_PhysTells.j0 k a0 t382 t386 t394 t398 true)) else (regletlaw01_PhysTells.j0 k a0 t382 t386 t394 t398 true)) else (regletlaw01_PhysTells.j0 k a0 t382 t386 t394 t398 true)))) = some r := H
  have A7 := Aside0.mk A70
  clear A70
  replace H := Option.bind_eq_some_iff.mp H
  obtain ⟨t402, A80, H⟩ := H
  replace H : ((regletref01_SameChars.f k t382 t386).bind fun t403 => (if t403 = true then (if t383 = t387 then (if t390.toList = t392.toList then (if t391 = t393 then ((regletref01_SameSpans.f k t394 t398).bind fun t404 => (if t404 = true then (if t395 = t399 then ((regletref01_Check.f k a0).bind fun t405 => (regletlaw01_PhysTells.j0 k a0 t382 t386 t394 t398 (t402 != t405))) else (regletlaw01_PhysTells.j0 k a0 t382 t386 t394 t398 true)) else (regletlaw01_PhysTells.j0 k a0 t382 t386 t394 t398 true))) else (regletlaw01_PhysTells.j0 k a0 t382 t386 t394 t398 true)) else (regletlaw01_PhysTells.j0 k a0 t382 t386 t394 t398 true)) else (regletlaw01_PhysTells.j0 k a0 t382 t386 t394 t398 true)) else (regletlaw01_PhysTells.j0 k a0 t382 t386 t394 t398 true))) = some r := H
  have A8 := Aside0.mk A80
  clear A80
  have HC9 := Aside0.mk H
  clear H
  go_enter Try.func9, Try.ntmps9
  go_upto_region 8 with (first | ((with_reducible refine gate_callee (f := 41) rfl ?_); refine goesL_ (some 24) rfl rfl Try.func41 (by kernel_rfl) rfl #[.string a0] rfl (by (try simp only [List.map_toArray, List.map_cons, List.map_nil]); first | done | rfl | (simp only [List.length_drop, List.length_take]; rfl)) ?_; (with_reducible refine (phys_Chars.calls a0 t382 t383 _ A2.out).mono ?_); rintro e w10 ⟨v384, rfl, ho0, hb⟩; refine ⟨_, rfl, ?_⟩; have n0_ := Aside0.mk (Kd.R_lower ho0 (below_size (by repeat (first | (with_reducible first | exact HB.out | apply below_alloc | apply pw_below_drewN | apply below_drew1) | exact HB.out)))); have n1_ := Aside0.mk (below_step (by repeat (first | (with_reducible first | exact HB.out | apply below_alloc | apply pw_below_drewN | apply below_drew1) | exact HB.out)) hb); clear HB; have HO385 := n0_; have HB := n1_; clear n0_ n1_; (try clear hb); (try clear hb2); (try clear hk); (try clear hi); (try clear ho0)) | ((with_reducible refine gate_callee (f := 43) rfl ?_); refine goesL_ (some 29) rfl rfl Try.func43 (by kernel_rfl) rfl #[.string a0] rfl (by (try simp only [List.map_toArray, List.map_cons, List.map_nil]); first | done | rfl | (simp only [List.length_drop, List.length_take]; rfl)) ?_; (with_reducible refine (regletref01_Chars.calls k a0 t386 t387 _ A3.out).mono ?_); rintro e w11 ⟨v388, rfl, ho0, hb⟩; refine ⟨_, rfl, ?_⟩; have n0_ := Aside0.mk (Kd.R_elder' (by (with_reducible repeat (first | apply Kd.R_alloc | apply Kd.R_drewN | apply Kd.R_drew)); exact HO385.out) (Kd.R_base ho0) hb); have n1_ := Aside0.mk (Kd.R_lower (Kd.R_new' ho0 (Kd.R_lt (by (with_reducible repeat (first | apply Kd.R_alloc | apply Kd.R_drewN | apply Kd.R_drew)); exact HO385.out))) (below_size (by repeat (first | (with_reducible first | exact HB.out | apply below_alloc | apply pw_below_drewN | apply below_drew1) | exact HB.out)))); have n2_ := Aside0.mk (below_step (by repeat (first | (with_reducible first | exact HB.out | apply below_alloc | apply pw_below_drewN | apply below_drew1) | exact HB.out)) hb); clear HO385; clear HB; have HO385 := n0_; have HO389 := n1_; have HB := n2_; clear n0_ n1_ n2_; (try clear hb); (try clear hb2); (try clear hk); (try clear hi); (try clear ho0)) | ((with_reducible refine gate_callee (f := 42) rfl ?_); refine goesL_ (some 34) rfl rfl Try.func42 (by kernel_rfl) rfl #[.string a0] rfl (by (try simp only [List.map_toArray, List.map_cons, List.map_nil]); first | done | rfl | (simp only [List.length_drop, List.length_take]; rfl)) ?_; (with_reducible refine (phys_Logical.calls a0 t390 t391 _ A4.out).mono ?_); rintro e w12 ⟨rfl, hb⟩; refine ⟨_, rfl, ?_⟩; have n0_ := Aside0.mk (Kd.R_below (by (with_reducible repeat (first | apply Kd.R_alloc | apply Kd.R_drewN | apply Kd.R_drew)); exact HO385.out) hb); have n1_ := Aside0.mk (Kd.R_below (by (with_reducible repeat (first | apply Kd.R_alloc | apply Kd.R_drewN | apply Kd.R_drew)); exact HO389.out) hb); have n2_ := Aside0.mk (below_step (by repeat (first | (with_reducible first | exact HB.out | apply below_alloc | apply pw_below_drewN | apply below_drew1) | exact HB.out)) hb); clear HO385; clear HO389; clear HB; have HO385 := n0_; have HO389 := n1_; have HB := n2_; clear n0_ n1_ n2_; (try clear hb); (try clear hb2); (try clear hk); (try clear hi)) | ((with_reducible refine gate_callee (f := 44) rfl ?_); refine goesL_ (some 39) rfl rfl Try.func44 (by kernel_rfl) rfl #[.string a0] rfl (by (try simp only [List.map_toArray, List.map_cons, List.map_nil]); first | done | rfl | (simp only [List.length_drop, List.length_take]; rfl)) ?_; (with_reducible refine (regletref01_Logical.calls k a0 t392 t393 _ A5.out).mono ?_); rintro e w13 ⟨rfl, hb⟩; refine ⟨_, rfl, ?_⟩; have n0_ := Aside0.mk (Kd.R_below (by (with_reducible repeat (first | apply Kd.R_alloc | apply Kd.R_drewN | apply Kd.R_drew)); exact HO385.out) hb); have n1_ := Aside0.mk (Kd.R_below (by (with_reducible repeat (first | apply Kd.R_alloc | apply Kd.R_drewN | apply Kd.R_drew)); exact HO389.out) hb); have n2_ := Aside0.mk (below_step (by repeat (first | (with_reducible first | exact HB.out | apply below_alloc | apply pw_below_drewN | apply below_drew1) | exact HB.out)) hb); clear HO385; clear HO389; clear HB; have HO385 := n0_; have HO389 := n1_; have HB := n2_; clear n0_ n1_ n2_; (try clear hb); (try clear hb2); (try clear hk); (try clear hi)) | ((with_reducible refine gate_callee (f := 45) rfl ?_); refine goesL_ (some 44) rfl rfl Try.func45 (by kernel_rfl) rfl #[.string a0] rfl (by (try simp only [List.map_toArray, List.map_cons, List.map_nil]); first | done | rfl | (simp only [List.length_drop, List.length_take]; rfl)) ?_; (with_reducible refine (phys_Splices.calls a0 t394 t395 _ A6.out).mono ?_); rintro e w14 ⟨v396, rfl, ho0, hb⟩; refine ⟨_, rfl, ?_⟩; have n0_ := Aside0.mk (Kd.R_below (by (with_reducible repeat (first | apply Kd.R_alloc | apply Kd.R_drewN | apply Kd.R_drew)); exact HO385.out) hb); have n1_ := Aside0.mk (Kd.R_below (by (with_reducible repeat (first | apply Kd.R_alloc | apply Kd.R_drewN | apply Kd.R_drew)); exact HO389.out) hb); have n2_ := Aside0.mk (Kd.R_lower ho0 (below_size (by repeat (first | (with_reducible first | exact HB.out | apply below_alloc | apply pw_below_drewN | apply below_drew1) | exact HB.out)))); have n3_ := Aside0.mk (below_step (by repeat (first | (with_reducible first | exact HB.out | apply below_alloc | apply pw_below_drewN | apply below_drew1) | exact HB.out)) hb); clear HO385; clear HO389; clear HB; have HO385 := n0_; have HO389 := n1_; have HO397 := n2_; have HB := n3_; clear n0_ n1_ n2_ n3_; (try clear hb); (try clear hb2); (try clear hk); (try clear hi); (try clear ho0)) | ((with_reducible refine gate_callee (f := 46) rfl ?_); refine goesL_ (some 49) rfl rfl Try.func46 (by kernel_rfl) rfl #[.string a0] rfl (by (try simp only [List.map_toArray, List.map_cons, List.map_nil]); first | done | rfl | (simp only [List.length_drop, List.length_take]; rfl)) ?_; (with_reducible refine (regletref01_Splices.calls k a0 t398 t399 _ A7.out).mono ?_); rintro e w15 ⟨v400, rfl, ho0, hb⟩; refine ⟨_, rfl, ?_⟩; have n0_ := Aside0.mk (Kd.R_below (by (with_reducible repeat (first | apply Kd.R_alloc | apply Kd.R_drewN | apply Kd.R_drew)); exact HO385.out) hb); have n1_ := Aside0.mk (Kd.R_below (by (with_reducible repeat (first | apply Kd.R_alloc | apply Kd.R_drewN | apply Kd.R_drew)); exact HO389.out) hb); have n2_ := Aside0.mk (Kd.R_elder' (by (with_reducible repeat (first | apply Kd.R_alloc | apply Kd.R_drewN | apply Kd.R_drew)); exact HO397.out) (Kd.R_base ho0) hb); have n3_ := Aside0.mk (Kd.R_lower (Kd.R_new' ho0 (Kd.R_lt (by (with_reducible repeat (first | apply Kd.R_alloc | apply Kd.R_drewN | apply Kd.R_drew)); exact HO397.out))) (below_size (by repeat (first | (with_reducible first | exact HB.out | apply below_alloc | apply pw_below_drewN | apply below_drew1) | exact HB.out)))); have n4_ := Aside0.mk (below_step (by repeat (first | (with_reducible first | exact HB.out | apply below_alloc | apply pw_below_drewN | apply below_drew1) | exact HB.out)) hb); clear HO385; clear HO389; clear HO397; clear HB; have HO385 := n0_; have HO389 := n1_; have HO397 := n2_; have HO401 := n3_; have HB := n4_; clear n0_ n1_ n2_ n3_ n4_; (try clear hb); (try clear hb2); (try clear hk); (try clear hi); (try clear ho0)) | ((with_reducible refine gate_callee (f := 47) rfl ?_); refine goesL_ (some 53) rfl rfl Try.func47 (by kernel_rfl) rfl #[.string a0] rfl (by (try simp only [List.map_toArray, List.map_cons, List.map_nil]); first | done | rfl | (simp only [List.length_drop, List.length_take]; rfl)) ?_; (with_reducible refine (phys_Check.calls a0 t402 _ A8.out).mono ?_); rintro e w16 ⟨rfl, hb⟩; refine ⟨_, rfl, ?_⟩; have n0_ := Aside0.mk (Kd.R_below (by (with_reducible repeat (first | apply Kd.R_alloc | apply Kd.R_drewN | apply Kd.R_drew)); exact HO385.out) hb); have n1_ := Aside0.mk (Kd.R_below (by (with_reducible repeat (first | apply Kd.R_alloc | apply Kd.R_drewN | apply Kd.R_drew)); exact HO389.out) hb); have n2_ := Aside0.mk (Kd.R_below (by (with_reducible repeat (first | apply Kd.R_alloc | apply Kd.R_drewN | apply Kd.R_drew)); exact HO397.out) hb); have n3_ := Aside0.mk (Kd.R_below (by (with_reducible repeat (first | apply Kd.R_alloc | apply Kd.R_drewN | apply Kd.R_drew)); exact HO401.out) hb); have n4_ := Aside0.mk (below_step (by repeat (first | (with_reducible first | exact HB.out | apply below_alloc | apply pw_below_drewN | apply below_drew1) | exact HB.out)) hb); clear HO385; clear HO389; clear HO397; clear HO401; clear HB; have HO385 := n0_; have HO389 := n1_; have HO397 := n2_; have HO401 := n3_; have HB := n4_; clear n0_ n1_ n2_ n3_ n4_; (try clear hb); (try clear hb2); (try clear hk); (try clear hi)))
  (try simp only [Act.put, List.setIfInBounds_toArray, List.set_cons_zero, List.set_cons_succ])
  go_cut [89] (fun v89 wc => ∃ (kq : Nat) (x89_8 : Bool), v89 = .bool x89_8 ∧ Aside0 (regletlaw01_PhysTells.j0 kq a0 t382 t386 t394 t398 x89_8 = some r) ∧ Aside0 (kq ≤ k) ∧ Aside0 (Kd.R k55 55 wc w.heap.size (fun k_ => some k_ ≠ (v388 : Value).ownBlock) v384 t382) ∧ Aside0 (Kd.R k55 55 wc w.heap.size (fun k_ => some k_ ≠ (v384 : Value).ownBlock) v388 t386) ∧ Aside0 (Kd.R k70 70 wc w.heap.size (fun k_ => some k_ ≠ (v400 : Value).ownBlock) v396 t394) ∧ Aside0 (Kd.R k70 70 wc w.heap.size (fun k_ => some k_ ≠ (v396 : Value).ownBlock) v400 t398) ∧ Aside0 (Below w.heap.size w wc))
  case first =>
    have H := HC9.out
    clear HC9
    replace H := Option.bind_eq_some_iff.mp H
    obtain ⟨t403, A170, H⟩ := H
    replace H : (if t403 = true then (if t383 = t387 then (if t390.toList = t392.toList then (if t391 = t393 then ((regletref01_SameSpans.f k t394 t398).bind fun t404 => (if t404 = true then (if t395 = t399 then ((regletref01_Check.f k a0).bind fun t405 => (regletlaw01_PhysTells.j0 k a0 t382 t386 t394 t398 (t402 != t405))) else (regletlaw01_PhysTells.j0 k a0 t382 t386 t394 t398 true)) else (regletlaw01_PhysTells.j0 k a0 t382 t386 t394 t398 true))) else (regletlaw01_PhysTells.j0 k a0 t382 t386 t394 t398 true)) else (regletlaw01_PhysTells.j0 k a0 t382 t386 t394 t398 true)) else (regletlaw01_PhysTells.j0 k a0 t382 t386 t394 t398 true)) else (regletlaw01_PhysTells.j0 k a0 t382 t386 t394 t398 true)) = some r := H
    have A17 := Aside0.mk A170
    clear A170
    by_cases c18 : t403 = true
    · subst c18
      have H1 : (if t383 = t387 then (if t390.toList = t392.toList then (if t391 = t393 then ((regletref01_SameSpans.f k t394 t398).bind fun t404 => (if t404 = true then (if t395 = t399 then ((regletref01_Check.f k a0).bind fun t405 => (regletlaw01_PhysTells.j0 k a0 t382 t386 t394 t398 (t402 != t405))) else (regletlaw01_PhysTells.j0 k a0 t382 t386 t394 t398 true)) else (regletlaw01_PhysTells.j0 k a0 t382 t386 t394 t398 true))) else (regletlaw01_PhysTells.j0 k a0 t382 t386 t394 t398 true)) else (regletlaw01_PhysTells.j0 k a0 t382 t386 t394 t398 true)) else (regletlaw01_PhysTells.j0 k a0 t382 t386 t394 t398 true)) = some r := by rw [if_pos rfl] at H; exact H
      clear H
      have H := H1
      clear H1
      by_cases c19 : t383 = t387
      · rw [if_pos c19] at H
        have c19b0 : (t383 == t387) = true := beq_iff_eq.mpr c19
        have c19b1 : (t383 != t387) = false := bne_eq_false_iff_eq.mpr c19
        clear c19
        (first | rw [c19b0] | (simp only [i64_w, i32_w]; rw [c19b0]) | skip)
        by_cases c20 : t390.toList = t392.toList
        · rw [if_pos c20] at H
          have c20b0 : (t390.toList == t392.toList) = true := beq_iff_eq.mpr c20
          have c20b1 : (t390.toList != t392.toList) = false := bne_eq_false_iff_eq.mpr c20
          clear c20
          by_cases c21 : t391 = t393
          · rw [if_pos c21] at H
            have c21b0 : (t391 == t393) = true := beq_iff_eq.mpr c21
            have c21b1 : (t391 != t393) = false := bne_eq_false_iff_eq.mpr c21
            clear c21
            replace H := Option.bind_eq_some_iff.mp H
            obtain ⟨t404, A220, H⟩ := H
            replace H : (if t404 = true then (if t395 = t399 then ((regletref01_Check.f k a0).bind fun t405 => (regletlaw01_PhysTells.j0 k a0 t382 t386 t394 t398 (t402 != t405))) else (regletlaw01_PhysTells.j0 k a0 t382 t386 t394 t398 true)) else (regletlaw01_PhysTells.j0 k a0 t382 t386 t394 t398 true)) = some r := H
            have A22 := Aside0.mk A220
            clear A220
            by_cases c23 : t404 = true
            · subst c23
              have H1 : (if t395 = t399 then ((regletref01_Check.f k a0).bind fun t405 => (regletlaw01_PhysTells.j0 k a0 t382 t386 t394 t398 (t402 != t405))) else (regletlaw01_PhysTells.j0 k a0 t382 t386 t394 t398 true)) = some r := by rw [if_pos rfl] at H; exact H
              clear H
              have H := H1
              clear H1
              by_cases c24 : t395 = t399
              · rw [if_pos c24] at H
                have c24b0 : (t395 == t399) = true := beq_iff_eq.mpr c24
                have c24b1 : (t395 != t399) = false := bne_eq_false_iff_eq.mpr c24
                clear c24
                replace H := Option.bind_eq_some_iff.mp H
                obtain ⟨t405, A250, H⟩ := H
                replace H : (regletlaw01_PhysTells.j0 k a0 t382 t386 t394 t398 (t402 != t405)) = some r := H
                have A25 := Aside0.mk A250
                clear A250
                have H' := Aside0.mk H
                clear H
                obtain ⟨Ao26, co26, eo26⟩ := Kd.R_slice HO385.out
                subst eo26
                obtain ⟨Ao27, co27, eo27⟩ := Kd.R_slice HO389.out
                subst eo27
                go_wp2_with (first | ((with_reducible refine gate_callee (f := 48) rfl ?_); refine goesL_ (some 56) rfl rfl Try.func48 (by kernel_rfl) rfl #[.slice Ao26 t382.length co26, .slice Ao27 t386.length co27] rfl (by (try simp only [List.map_toArray, List.map_cons, List.map_nil]); first | done | rfl | (simp only [List.length_drop, List.length_take]; rfl)) ?_; (with_reducible refine (regletref01_SameChars.calls k _ _ t382 _ _ t386 true _ ?side1 ?side2 ?side3 ?side4 A17.out).mono ?_); (case side1 => repeat (first | exact (Kd.R_reads' HO385.out).2.2 | (with_reducible refine Kd.C_alloc ?_ _) | (with_reducible refine Kd.C_drewN ?_ _) | (with_reducible refine Kd.C_drew ?_))); (case side2 => exact (Kd.R_reads' HO385.out).2.1); (case side3 => repeat (first | exact (Kd.R_reads' HO389.out).2.2 | (with_reducible refine Kd.C_alloc ?_ _) | (with_reducible refine Kd.C_drewN ?_ _) | (with_reducible refine Kd.C_drew ?_))); (case side4 => exact (Kd.R_reads' HO389.out).2.1); rintro e w' ⟨rfl, ⟨nd, rfl⟩⟩; refine ⟨_, rfl, ?_⟩; obtain ⟨Ao28, co28, eo28⟩ := Kd.R_slice HO397.out; subst eo28; obtain ⟨Ao29, co29, eo29⟩ := Kd.R_slice HO401.out; subst eo29) | (go_at_call 49; (with_reducible refine (regletref01_SameSpans.calls k _ _ t394 _ _ t398 true _ ?side1 ?side2 ?side3 ?side4 A22.out).mono ?_); (case side1 => repeat (first | exact (Kd.R_reads' HO397.out).2.2 | (with_reducible refine Kd.C_alloc ?_ _) | (with_reducible refine Kd.C_drewN ?_ _) | (with_reducible refine Kd.C_drew ?_))); (case side2 => exact (Kd.R_reads' HO397.out).2.1); (case side3 => repeat (first | exact (Kd.R_reads' HO401.out).2.2 | (with_reducible refine Kd.C_alloc ?_ _) | (with_reducible refine Kd.C_drewN ?_ _) | (with_reducible refine Kd.C_drew ?_))); (case side4 => exact (Kd.R_reads' HO401.out).2.1); rintro e w' ⟨rfl, ⟨nd, rfl⟩⟩) | (go_at_call 50; (with_reducible refine (regletref01_Check.calls k a0 t405 _ A25.out).mono ?_); rintro e w30 ⟨rfl, hb⟩; have n0_ := Aside0.mk (Kd.R_below (by (with_reducible repeat (first | apply Kd.R_alloc | apply Kd.R_drewN | apply Kd.R_drew)); exact HO385.out) hb); have n1_ := Aside0.mk (Kd.R_below (by (with_reducible repeat (first | apply Kd.R_alloc | apply Kd.R_drewN | apply Kd.R_drew)); exact HO389.out) hb); have n2_ := Aside0.mk (Kd.R_below (by (with_reducible repeat (first | apply Kd.R_alloc | apply Kd.R_drewN | apply Kd.R_drew)); exact HO397.out) hb); have n3_ := Aside0.mk (Kd.R_below (by (with_reducible repeat (first | apply Kd.R_alloc | apply Kd.R_drewN | apply Kd.R_drew)); exact HO401.out) hb); have n4_ := Aside0.mk (below_step (by repeat (first | (with_reducible first | exact HB.out | apply below_alloc | apply pw_below_drewN | apply below_drew1) | exact HB.out)) hb); clear HO385; clear HO389; clear HO397; clear HO401; clear HB; have HO385 := n0_; have HO389 := n1_; have HO397 := n2_; have HO401 := n3_; have HB := n4_; clear n0_ n1_ n2_ n3_ n4_; (try clear hb); (try clear hb2); (try clear hk); (try clear hi)))
                go_meet
                case rel => exact ⟨_, ((t402 != t405)), (by first | rfl | (simp; done) | (simp [*]; done)), H', ⟨by first | omega | exact Nat.le_refl _⟩, ⟨by (with_reducible repeat (first | apply Kd.R_alloc | apply Kd.R_drewN | apply Kd.R_drew)); exact Kd.R_mono HO385.out (fun _ hk => hk.2)⟩, ⟨by (with_reducible repeat (first | apply Kd.R_alloc | apply Kd.R_drewN | apply Kd.R_drew)); exact Kd.R_mono HO389.out (fun _ hk => hk.2)⟩, ⟨by (with_reducible repeat (first | apply Kd.R_alloc | apply Kd.R_drewN | apply Kd.R_drew)); exact Kd.R_mono HO397.out (fun _ hk => hk.2)⟩, ⟨by (with_reducible repeat (first | apply Kd.R_alloc | apply Kd.R_drewN | apply Kd.R_drew)); exact Kd.R_mono HO401.out (fun _ hk => hk.2)⟩, ⟨by repeat (first | (with_reducible first | exact HB.out | apply below_alloc | apply pw_below_drewN | apply below_drew1) | exact HB.out)⟩⟩
              · rw [if_neg c24] at H
                have c24b0 : (t395 == t399) = false := beq_eq_false_iff_ne.mpr c24
                have c24b1 : (t395 != t399) = true := bne_iff_ne.mpr c24
                have H' := Aside0.mk H
                clear H
                obtain ⟨Ao31, co31, eo31⟩ := Kd.R_slice HO385.out
                subst eo31
                obtain ⟨Ao32, co32, eo32⟩ := Kd.R_slice HO389.out
                subst eo32
                go_wp2_with (first | ((with_reducible refine gate_callee (f := 48) rfl ?_); refine goesL_ (some 56) rfl rfl Try.func48 (by kernel_rfl) rfl #[.slice Ao31 t382.length co31, .slice Ao32 t386.length co32] rfl (by (try simp only [List.map_toArray, List.map_cons, List.map_nil]); first | done | rfl | (simp only [List.length_drop, List.length_take]; rfl)) ?_; (with_reducible refine (regletref01_SameChars.calls k _ _ t382 _ _ t386 true _ ?side1 ?side2 ?side3 ?side4 A17.out).mono ?_); (case side1 => repeat (first | exact (Kd.R_reads' HO385.out).2.2 | (with_reducible refine Kd.C_alloc ?_ _) | (with_reducible refine Kd.C_drewN ?_ _) | (with_reducible refine Kd.C_drew ?_))); (case side2 => exact (Kd.R_reads' HO385.out).2.1); (case side3 => repeat (first | exact (Kd.R_reads' HO389.out).2.2 | (with_reducible refine Kd.C_alloc ?_ _) | (with_reducible refine Kd.C_drewN ?_ _) | (with_reducible refine Kd.C_drew ?_))); (case side4 => exact (Kd.R_reads' HO389.out).2.1); rintro e w' ⟨rfl, ⟨nd, rfl⟩⟩; refine ⟨_, rfl, ?_⟩; obtain ⟨Ao33, co33, eo33⟩ := Kd.R_slice HO397.out; subst eo33; obtain ⟨Ao34, co34, eo34⟩ := Kd.R_slice HO401.out; subst eo34) | (go_at_call 49; (with_reducible refine (regletref01_SameSpans.calls k _ _ t394 _ _ t398 true _ ?side1 ?side2 ?side3 ?side4 A22.out).mono ?_); (case side1 => repeat (first | exact (Kd.R_reads' HO397.out).2.2 | (with_reducible refine Kd.C_alloc ?_ _) | (with_reducible refine Kd.C_drewN ?_ _) | (with_reducible refine Kd.C_drew ?_))); (case side2 => exact (Kd.R_reads' HO397.out).2.1); (case side3 => repeat (first | exact (Kd.R_reads' HO401.out).2.2 | (with_reducible refine Kd.C_alloc ?_ _) | (with_reducible refine Kd.C_drewN ?_ _) | (with_reducible refine Kd.C_drew ?_))); (case side4 => exact (Kd.R_reads' HO401.out).2.1); rintro e w' ⟨rfl, ⟨nd, rfl⟩⟩))
                go_meet
                case rel => exact ⟨_, (true), (by first | rfl | (simp; done) | (simp [*]; done)), H', ⟨by first | omega | exact Nat.le_refl _⟩, ⟨by (with_reducible repeat (first | apply Kd.R_alloc | apply Kd.R_drewN | apply Kd.R_drew)); exact Kd.R_mono HO385.out (fun _ hk => hk.2)⟩, ⟨by (with_reducible repeat (first | apply Kd.R_alloc | apply Kd.R_drewN | apply Kd.R_drew)); exact Kd.R_mono HO389.out (fun _ hk => hk.2)⟩, ⟨by (with_reducible repeat (first | apply Kd.R_alloc | apply Kd.R_drewN | apply Kd.R_drew)); exact Kd.R_mono HO397.out (fun _ hk => hk.2)⟩, ⟨by (with_reducible repeat (first | apply Kd.R_alloc | apply Kd.R_drewN | apply Kd.R_drew)); exact Kd.R_mono HO401.out (fun _ hk => hk.2)⟩, ⟨by repeat (first | (with_reducible first | exact HB.out | apply below_alloc | apply pw_below_drewN | apply below_drew1) | exact HB.out)⟩⟩
            · replace c23 := Bool.eq_false_iff.mpr c23
              subst c23
              have H1 : (regletlaw01_PhysTells.j0 k a0 t382 t386 t394 t398 true) = some r := by rw [if_neg (show ¬ (false = true) by decide)] at H; exact H
              clear H
              have H := H1
              clear H1
              have H' := Aside0.mk H
              clear H
              obtain ⟨Ao35, co35, eo35⟩ := Kd.R_slice HO385.out
              subst eo35
              obtain ⟨Ao36, co36, eo36⟩ := Kd.R_slice HO389.out
              subst eo36
              go_wp2_with (first | ((with_reducible refine gate_callee (f := 48) rfl ?_); refine goesL_ (some 56) rfl rfl Try.func48 (by kernel_rfl) rfl #[.slice Ao35 t382.length co35, .slice Ao36 t386.length co36] rfl (by (try simp only [List.map_toArray, List.map_cons, List.map_nil]); first | done | rfl | (simp only [List.length_drop, List.length_take]; rfl)) ?_; (with_reducible refine (regletref01_SameChars.calls k _ _ t382 _ _ t386 true _ ?side1 ?side2 ?side3 ?side4 A17.out).mono ?_); (case side1 => repeat (first | exact (Kd.R_reads' HO385.out).2.2 | (with_reducible refine Kd.C_alloc ?_ _) | (with_reducible refine Kd.C_drewN ?_ _) | (with_reducible refine Kd.C_drew ?_))); (case side2 => exact (Kd.R_reads' HO385.out).2.1); (case side3 => repeat (first | exact (Kd.R_reads' HO389.out).2.2 | (with_reducible refine Kd.C_alloc ?_ _) | (with_reducible refine Kd.C_drewN ?_ _) | (with_reducible refine Kd.C_drew ?_))); (case side4 => exact (Kd.R_reads' HO389.out).2.1); rintro e w' ⟨rfl, ⟨nd, rfl⟩⟩; refine ⟨_, rfl, ?_⟩; obtain ⟨Ao37, co37, eo37⟩ := Kd.R_slice HO397.out; subst eo37; obtain ⟨Ao38, co38, eo38⟩ := Kd.R_slice HO401.out; subst eo38) | (go_at_call 49; (with_reducible refine (regletref01_SameSpans.calls k _ _ t394 _ _ t398 false _ ?side1 ?side2 ?side3 ?side4 A22.out).mono ?_); (case side1 => repeat (first | exact (Kd.R_reads' HO397.out).2.2 | (with_reducible refine Kd.C_alloc ?_ _) | (with_reducible refine Kd.C_drewN ?_ _) | (with_reducible refine Kd.C_drew ?_))); (case side2 => exact (Kd.R_reads' HO397.out).2.1); (case side3 => repeat (first | exact (Kd.R_reads' HO401.out).2.2 | (with_reducible refine Kd.C_alloc ?_ _) | (with_reducible refine Kd.C_drewN ?_ _) | (with_reducible refine Kd.C_drew ?_))); (case side4 => exact (Kd.R_reads' HO401.out).2.1); rintro e w' ⟨rfl, ⟨nd, rfl⟩⟩))
              go_meet
              case rel => exact ⟨_, (true), (by first | rfl | (simp; done) | (simp [*]; done)), H', ⟨by first | omega | exact Nat.le_refl _⟩, ⟨by (with_reducible repeat (first | apply Kd.R_alloc | apply Kd.R_drewN | apply Kd.R_drew)); exact Kd.R_mono HO385.out (fun _ hk => hk.2)⟩, ⟨by (with_reducible repeat (first | apply Kd.R_alloc | apply Kd.R_drewN | apply Kd.R_drew)); exact Kd.R_mono HO389.out (fun _ hk => hk.2)⟩, ⟨by (with_reducible repeat (first | apply Kd.R_alloc | apply Kd.R_drewN | apply Kd.R_drew)); exact Kd.R_mono HO397.out (fun _ hk => hk.2)⟩, ⟨by (with_reducible repeat (first | apply Kd.R_alloc | apply Kd.R_drewN | apply Kd.R_drew)); exact Kd.R_mono HO401.out (fun _ hk => hk.2)⟩, ⟨by repeat (first | (with_reducible first | exact HB.out | apply below_alloc | apply pw_below_drewN | apply below_drew1) | exact HB.out)⟩⟩
          · rw [if_neg c21] at H
            have c21b0 : (t391 == t393) = false := beq_eq_false_iff_ne.mpr c21
            have c21b1 : (t391 != t393) = true := bne_iff_ne.mpr c21
            have H' := Aside0.mk H
            clear H
            obtain ⟨Ao39, co39, eo39⟩ := Kd.R_slice HO385.out
            subst eo39
            obtain ⟨Ao40, co40, eo40⟩ := Kd.R_slice HO389.out
            subst eo40
            go_wp2_with (first | ((with_reducible refine gate_callee (f := 48) rfl ?_); refine goesL_ (some 56) rfl rfl Try.func48 (by kernel_rfl) rfl #[.slice Ao39 t382.length co39, .slice Ao40 t386.length co40] rfl (by (try simp only [List.map_toArray, List.map_cons, List.map_nil]); first | done | rfl | (simp only [List.length_drop, List.length_take]; rfl)) ?_; (with_reducible refine (regletref01_SameChars.calls k _ _ t382 _ _ t386 true _ ?side1 ?side2 ?side3 ?side4 A17.out).mono ?_); (case side1 => repeat (first | exact (Kd.R_reads' HO385.out).2.2 | (with_reducible refine Kd.C_alloc ?_ _) | (with_reducible refine Kd.C_drewN ?_ _) | (with_reducible refine Kd.C_drew ?_))); (case side2 => exact (Kd.R_reads' HO385.out).2.1); (case side3 => repeat (first | exact (Kd.R_reads' HO389.out).2.2 | (with_reducible refine Kd.C_alloc ?_ _) | (with_reducible refine Kd.C_drewN ?_ _) | (with_reducible refine Kd.C_drew ?_))); (case side4 => exact (Kd.R_reads' HO389.out).2.1); rintro e w' ⟨rfl, ⟨nd, rfl⟩⟩; refine ⟨_, rfl, ?_⟩))
            go_meet
            case rel => exact ⟨_, (true), (by first | rfl | (simp; done) | (simp [*]; done)), H', ⟨by first | omega | exact Nat.le_refl _⟩, ⟨by (with_reducible repeat (first | apply Kd.R_alloc | apply Kd.R_drewN | apply Kd.R_drew)); exact Kd.R_mono HO385.out (fun _ hk => hk.2)⟩, ⟨by (with_reducible repeat (first | apply Kd.R_alloc | apply Kd.R_drewN | apply Kd.R_drew)); exact Kd.R_mono HO389.out (fun _ hk => hk.2)⟩, ⟨by (with_reducible repeat (first | apply Kd.R_alloc | apply Kd.R_drewN | apply Kd.R_drew)); exact Kd.R_mono HO397.out (fun _ hk => hk.2)⟩, ⟨by (with_reducible repeat (first | apply Kd.R_alloc | apply Kd.R_drewN | apply Kd.R_drew)); exact Kd.R_mono HO401.out (fun _ hk => hk.2)⟩, ⟨by repeat (first | (with_reducible first | exact HB.out | apply below_alloc | apply pw_below_drewN | apply below_drew1) | exact HB.out)⟩⟩
        · rw [if_neg c20] at H
          have c20b0 : (t390.toList == t392.toList) = false := beq_eq_false_iff_ne.mpr c20
          have c20b1 : (t390.toList != t392.toList) = true := bne_iff_ne.mpr c20
          have H' := Aside0.mk H
          clear H
          obtain ⟨Ao41, co41, eo41⟩ := Kd.R_slice HO385.out
          subst eo41
          obtain ⟨Ao42, co42, eo42⟩ := Kd.R_slice HO389.out
          subst eo42
          go_wp2_with (first | ((with_reducible refine gate_callee (f := 48) rfl ?_); refine goesL_ (some 56) rfl rfl Try.func48 (by kernel_rfl) rfl #[.slice Ao41 t382.length co41, .slice Ao42 t386.length co42] rfl (by (try simp only [List.map_toArray, List.map_cons, List.map_nil]); first | done | rfl | (simp only [List.length_drop, List.length_take]; rfl)) ?_; (with_reducible refine (regletref01_SameChars.calls k _ _ t382 _ _ t386 true _ ?side1 ?side2 ?side3 ?side4 A17.out).mono ?_); (case side1 => repeat (first | exact (Kd.R_reads' HO385.out).2.2 | (with_reducible refine Kd.C_alloc ?_ _) | (with_reducible refine Kd.C_drewN ?_ _) | (with_reducible refine Kd.C_drew ?_))); (case side2 => exact (Kd.R_reads' HO385.out).2.1); (case side3 => repeat (first | exact (Kd.R_reads' HO389.out).2.2 | (with_reducible refine Kd.C_alloc ?_ _) | (with_reducible refine Kd.C_drewN ?_ _) | (with_reducible refine Kd.C_drew ?_))); (case side4 => exact (Kd.R_reads' HO389.out).2.1); rintro e w' ⟨rfl, ⟨nd, rfl⟩⟩; refine ⟨_, rfl, ?_⟩))
          go_meet
          case rel => exact ⟨_, (true), (by first | rfl | (simp; done) | (simp [*]; done)), H', ⟨by first | omega | exact Nat.le_refl _⟩, ⟨by (with_reducible repeat (first | apply Kd.R_alloc | apply Kd.R_drewN | apply Kd.R_drew)); exact Kd.R_mono HO385.out (fun _ hk => hk.2)⟩, ⟨by (with_reducible repeat (first | apply Kd.R_alloc | apply Kd.R_drewN | apply Kd.R_drew)); exact Kd.R_mono HO389.out (fun _ hk => hk.2)⟩, ⟨by (with_reducible repeat (first | apply Kd.R_alloc | apply Kd.R_drewN | apply Kd.R_drew)); exact Kd.R_mono HO397.out (fun _ hk => hk.2)⟩, ⟨by (with_reducible repeat (first | apply Kd.R_alloc | apply Kd.R_drewN | apply Kd.R_drew)); exact Kd.R_mono HO401.out (fun _ hk => hk.2)⟩, ⟨by repeat (first | (with_reducible first | exact HB.out | apply below_alloc | apply pw_below_drewN | apply below_drew1) | exact HB.out)⟩⟩
      · rw [if_neg c19] at H
        have c19b0 : (t383 == t387) = false := beq_eq_false_iff_ne.mpr c19
        have c19b1 : (t383 != t387) = true := bne_iff_ne.mpr c19
        (first | rw [c19b0] | (simp only [i64_w, i32_w]; rw [c19b0]) | skip)
        have H' := Aside0.mk H
        clear H
        obtain ⟨Ao43, co43, eo43⟩ := Kd.R_slice HO385.out
        subst eo43
        obtain ⟨Ao44, co44, eo44⟩ := Kd.R_slice HO389.out
        subst eo44
        go_wp2_with (first | ((with_reducible refine gate_callee (f := 48) rfl ?_); refine goesL_ (some 56) rfl rfl Try.func48 (by kernel_rfl) rfl #[.slice Ao43 t382.length co43, .slice Ao44 t386.length co44] rfl (by (try simp only [List.map_toArray, List.map_cons, List.map_nil]); first | done | rfl | (simp only [List.length_drop, List.length_take]; rfl)) ?_; (with_reducible refine (regletref01_SameChars.calls k _ _ t382 _ _ t386 true _ ?side1 ?side2 ?side3 ?side4 A17.out).mono ?_); (case side1 => repeat (first | exact (Kd.R_reads' HO385.out).2.2 | (with_reducible refine Kd.C_alloc ?_ _) | (with_reducible refine Kd.C_drewN ?_ _) | (with_reducible refine Kd.C_drew ?_))); (case side2 => exact (Kd.R_reads' HO385.out).2.1); (case side3 => repeat (first | exact (Kd.R_reads' HO389.out).2.2 | (with_reducible refine Kd.C_alloc ?_ _) | (with_reducible refine Kd.C_drewN ?_ _) | (with_reducible refine Kd.C_drew ?_))); (case side4 => exact (Kd.R_reads' HO389.out).2.1); rintro e w' ⟨rfl, ⟨nd, rfl⟩⟩; refine ⟨_, rfl, ?_⟩))
        go_meet
        case rel => exact ⟨_, (true), (by first | rfl | (simp; done) | (simp [*]; done)), H', ⟨by first | omega | exact Nat.le_refl _⟩, ⟨by (with_reducible repeat (first | apply Kd.R_alloc | apply Kd.R_drewN | apply Kd.R_drew)); exact Kd.R_mono HO385.out (fun _ hk => hk.2)⟩, ⟨by (with_reducible repeat (first | apply Kd.R_alloc | apply Kd.R_drewN | apply Kd.R_drew)); exact Kd.R_mono HO389.out (fun _ hk => hk.2)⟩, ⟨by (with_reducible repeat (first | apply Kd.R_alloc | apply Kd.R_drewN | apply Kd.R_drew)); exact Kd.R_mono HO397.out (fun _ hk => hk.2)⟩, ⟨by (with_reducible repeat (first | apply Kd.R_alloc | apply Kd.R_drewN | apply Kd.R_drew)); exact Kd.R_mono HO401.out (fun _ hk => hk.2)⟩, ⟨by repeat (first | (with_reducible first | exact HB.out | apply below_alloc | apply pw_below_drewN | apply below_drew1) | exact HB.out)⟩⟩
    · replace c18 := Bool.eq_false_iff.mpr c18
      subst c18
      have H1 : (regletlaw01_PhysTells.j0 k a0 t382 t386 t394 t398 true) = some r := by rw [if_neg (show ¬ (false = true) by decide)] at H; exact H
      clear H
      have H := H1
      clear H1
      have H' := Aside0.mk H
      clear H
      obtain ⟨Ao45, co45, eo45⟩ := Kd.R_slice HO385.out
      subst eo45
      obtain ⟨Ao46, co46, eo46⟩ := Kd.R_slice HO389.out
      subst eo46
      go_wp2_with (first | ((with_reducible refine gate_callee (f := 48) rfl ?_); refine goesL_ (some 56) rfl rfl Try.func48 (by kernel_rfl) rfl #[.slice Ao45 t382.length co45, .slice Ao46 t386.length co46] rfl (by (try simp only [List.map_toArray, List.map_cons, List.map_nil]); first | done | rfl | (simp only [List.length_drop, List.length_take]; rfl)) ?_; (with_reducible refine (regletref01_SameChars.calls k _ _ t382 _ _ t386 false _ ?side1 ?side2 ?side3 ?side4 A17.out).mono ?_); (case side1 => repeat (first | exact (Kd.R_reads' HO385.out).2.2 | (with_reducible refine Kd.C_alloc ?_ _) | (with_reducible refine Kd.C_drewN ?_ _) | (with_reducible refine Kd.C_drew ?_))); (case side2 => exact (Kd.R_reads' HO385.out).2.1); (case side3 => repeat (first | exact (Kd.R_reads' HO389.out).2.2 | (with_reducible refine Kd.C_alloc ?_ _) | (with_reducible refine Kd.C_drewN ?_ _) | (with_reducible refine Kd.C_drew ?_))); (case side4 => exact (Kd.R_reads' HO389.out).2.1); rintro e w' ⟨rfl, ⟨nd, rfl⟩⟩; refine ⟨_, rfl, ?_⟩))
      go_meet
      case rel => exact ⟨_, (true), (by first | rfl | (simp; done) | (simp [*]; done)), H', ⟨by first | omega | exact Nat.le_refl _⟩, ⟨by (with_reducible repeat (first | apply Kd.R_alloc | apply Kd.R_drewN | apply Kd.R_drew)); exact Kd.R_mono HO385.out (fun _ hk => hk.2)⟩, ⟨by (with_reducible repeat (first | apply Kd.R_alloc | apply Kd.R_drewN | apply Kd.R_drew)); exact Kd.R_mono HO389.out (fun _ hk => hk.2)⟩, ⟨by (with_reducible repeat (first | apply Kd.R_alloc | apply Kd.R_drewN | apply Kd.R_drew)); exact Kd.R_mono HO397.out (fun _ hk => hk.2)⟩, ⟨by (with_reducible repeat (first | apply Kd.R_alloc | apply Kd.R_drewN | apply Kd.R_drew)); exact Kd.R_mono HO401.out (fun _ hk => hk.2)⟩, ⟨by repeat (first | (with_reducible first | exact HB.out | apply below_alloc | apply pw_below_drewN | apply below_drew1) | exact HB.out)⟩⟩
  case rest =>
    clear HC9
    try clear c1
    try clear c2
    try clear p2
    try clear c4
    try clear c9
    try clear c18
    try clear c19
    try clear c19b0
    try clear c19b1
    try clear c20
    try clear c20b0
    try clear c20b1
    try clear c21
    try clear c21b0
    try clear c21b1
    try clear c23
    try clear c24
    try clear c24b0
    try clear c24b1
    try clear c41
    try clear c42
    try clear c43
    try clear c44
    try clear c45
    try clear c46
    obtain ⟨kq, x89_8, rfl, HA, HJ8, HO_3, HO_5, HO_11, HO_13, HB⟩ := hcut
    cases kq with
    | zero => exact absurd HA.out (by simp [regletlaw01_PhysTells.j0])
    | succ kj8 =>
      have H := HA.out
      clear HA
      simp only [regletlaw01_PhysTells.j0] at H
      by_cases c47 : x89_8 = true
      · subst c47
        have H1 : (some false) = some r := by rw [if_pos rfl] at H; exact H
        clear H
        have H := H1
        clear H1
        obtain rfl := Option.some.inj H
        go_wp2
        go_ret
        exact ⟨by first | rfl | (simp [errW_none, errW_some] <;> rfl) | (simp [*, errW_none, errW_some] <;> rfl), by repeat (first | (with_reducible first | exact HB.out | apply below_alloc | apply pw_below_drewN | apply below_drew1) | exact HB.out)⟩
      · replace c47 := Bool.eq_false_iff.mpr c47
        subst c47
        have H1 : (regletlaw01_PhysTells.l0 kj8 a0 t382 t386 t394 t398 0) = some r := by rw [if_neg (show ¬ (false = true) by decide)] at H; exact H
        clear H
        have H := H1
        clear H1
        have H' := Aside0.mk H
        clear H
        go_wp2
        go_loopg [16] kj8 (fun kq v16 w' => ∃ (x3_2 : List (S55)) (x16_2 : Int), v16 = .int .i64 x16_2 ∧ Aside0 (regletlaw01_PhysTells.l0 kq a0 x3_2 t386 t394 t398 x16_2 = some r) ∧ Aside0 (kq ≤ kj8) ∧ Aside0 (Kd.R k55 55 w' w.heap.size (fun k_ => some k_ ≠ (v388 : Value).ownBlock) v384 x3_2) ∧ Aside0 (Kd.R k55 55 w' w.heap.size (fun k_ => some k_ ≠ (v384 : Value).ownBlock) v388 t386) ∧ Aside0 (Kd.R k70 70 w' w.heap.size (fun k_ => some k_ ≠ (v400 : Value).ownBlock) v396 t394) ∧ Aside0 (Kd.R k70 70 w' w.heap.size (fun k_ => some k_ ≠ (v396 : Value).ownBlock) v400 t398) ∧ Aside0 (Below w.heap.size w w'))
        case atStart => exact ⟨(t382), (0), (by first | rfl | (simp; done) | (simp [*]; done)), H', ⟨Nat.le_refl _⟩, ⟨by (with_reducible repeat (first | apply Kd.R_alloc | apply Kd.R_drewN | apply Kd.R_drew)); exact HO_3.out⟩, ⟨by (with_reducible repeat (first | apply Kd.R_alloc | apply Kd.R_drewN | apply Kd.R_drew)); exact HO_5.out⟩, ⟨by (with_reducible repeat (first | apply Kd.R_alloc | apply Kd.R_drewN | apply Kd.R_drew)); exact HO_11.out⟩, ⟨by (with_reducible repeat (first | apply Kd.R_alloc | apply Kd.R_drewN | apply Kd.R_drew)); exact HO_13.out⟩, ⟨by repeat (first | (with_reducible first | exact HB.out | apply below_alloc | apply pw_below_drewN | apply below_drew1) | exact HB.out)⟩⟩
        case round =>
          clear H'
          try clear c1
          try clear c2
          try clear p2
          try clear c4
          try clear c9
          try clear c18
          try clear c19
          try clear c19b0
          try clear c19b1
          try clear c20
          try clear c20b0
          try clear c20b1
          try clear c21
          try clear c21b0
          try clear c21b1
          try clear c23
          try clear c24
          try clear c24b0
          try clear c24b1
          try clear c41
          try clear c42
          try clear c43
          try clear c44
          try clear c45
          try clear c46
          try clear c47
          try clear p2
          obtain ⟨x3_2, x16_2, rfl, HA, HK2, HO_3, HO_5, HO_11, HO_13, HB⟩ := hrel
          cases gk with
          | zero => exact absurd HA.out (by simp [regletlaw01_PhysTells.l0])
          | succ k2 =>
            have H := HA.out
            clear HA
            simp only [regletlaw01_PhysTells.l0] at H
            by_cases c48 : x16_2 < (x3_2.length : Int)
            · rw [if_pos c48] at H
              have c48b0 : decide (x16_2 < (x3_2.length : Int)) = true := decide_eq_true c48
              clear c48
              by_cases c49 : 0 ≤ x16_2
              · rw [if_pos c49] at H
                have c49b0 : decide (0 ≤ x16_2) = true := decide_eq_true c49
                clear c49
                obtain ⟨y406, hy406⟩ : ∃ y_ : List (S55), y_ = (x3_2.set (x16_2 : Int).toNat (⟨113, (-7), 0⟩ : S55)) := ⟨_, rfl⟩
                replace H : (regletlaw01_PhysTells.l0 k2 a0 y406 t386 t394 t398 (wrap64 (x16_2 + 1))) = some r := by first | (rw [hy406]; with_reducible exact H) | (have H2_ := (Option.bind_some _ _).symm.trans H; rw [hy406]; with_reducible exact H2_) | (have H2_ := (Option.bind_some _ _).symm.trans H; with_reducible exact H2_) | with_reducible exact H | (rw [hy406]; exact H) | exact H
                have Ny406 := Aside0.mk hy406
                clear hy406
                have H' := Aside0.mk H
                clear H
                obtain ⟨Ao51, co51, eo51⟩ := Kd.R_slice HO_3.out
                subst eo51
                have p50 : 0 ≤ (x16_2 : Int) := of_decide_eq_true (by first | (with_reducible assumption) | assumption)
                have q50 : (x16_2 : Int) < ((x3_2.length : Int) : Int) := of_decide_eq_true (by first | (with_reducible assumption) | assumption)
                obtain ⟨go50, co50, eo50, gb50, gl50, cl50, HG50⟩ := Kd.R_form HO_3.out (by omega)
                (first | cases eo50 | (injection eo50 with ea_ en_ ec_; (first | subst ea_ | (injection ea_ with ea_; subst ea_)); subst ec_; clear en_))
                have GB50 := Aside0.mk gb50
                have GG50 := Aside0.mk HG50
                clear gb50 gl50 HG50
                obtain ⟨ce50, hcl50, hM50, hcc50, hfr50⟩ := Kd.R_elem HO_3.out z55 (x16_2 : Int) p50 q50
                obtain rfl := k55_openM hM50
                have hx50_0 : wr.cell? ⟨go50, (x16_2 : Int).toNat * 3, none⟩ = some (.int .u8 ((rd_T55 x3_2 x16_2).f0)) := hcc50 0 _ rfl
                have hx50_1 : wr.cell? ⟨go50, (x16_2 : Int).toNat * 3 + 1, none⟩ = some (.int .i64 ((rd_T55 x3_2 x16_2).f1)) := hcc50 1 _ rfl
                have hx50_2 : wr.cell? ⟨go50, (x16_2 : Int).toNat * 3 + 2, none⟩ = some (.int .i64 ((rd_T55 x3_2 x16_2).f2)) := hcc50 2 _ rfl
                have hf50_0 : wr.frozen? ⟨go50, (x16_2 : Int).toNat * 3, none⟩ = false := hfr50 0
                have hf50_1 : wr.frozen? ⟨go50, (x16_2 : Int).toNat * 3 + 1, none⟩ = false := hfr50 1
                have hf50_2 : wr.frozen? ⟨go50, (x16_2 : Int).toNat * 3 + 2, none⟩ = false := hfr50 2
                clear hcl50 hcc50 hfr50 hM50
                replace p50 := eq_true p50
                replace q50 := eq_true q50
                have HX52 := Aside0.mk (show Kd.R k55 55 wr w.heap.size (fun k_ => some k_ ≠ (v388 : Value).ownBlock) (.slice (some ⟨go50, 0, none⟩) x3_2.length co51) x3_2 from (by (with_reducible repeat (first | apply Kd.R_alloc | apply Kd.R_drewN | apply Kd.R_drew)); exact HO_3.out))
                obtain ⟨ce52, hcl52, hM52, hcc52, hfr52⟩ := Kd.R_elem HX52.out z55 (x16_2 : Int) (of_decide_eq_true (by first | (with_reducible assumption) | assumption)) (by have h_ : (x16_2 : Int) < ((x3_2.length : Int) : Int) := of_decide_eq_true (by first | (with_reducible assumption) | assumption); first | exact h_ | (have e_ := (Kd.R_reads' HO_3.out).1; omega) | simpa using h_)
                obtain rfl := k55_openM hM52
                have HP52 := Kd.R_seg HX52.out (x16_2 : Int) (of_decide_eq_true (by first | (with_reducible assumption) | assumption)) (by have h_ : (x16_2 : Int) < ((x3_2.length : Int) : Int) := of_decide_eq_true (by first | (with_reducible assumption) | assumption); first | exact h_ | (have e_ := (Kd.R_reads' HO_3.out).1; omega) | simpa using h_) (seg := [.int .u8 113, .int .i64 (-7), .int .i64 0]) (j := 0) hcl52 hcc52 (show 3 ≤ 3 from by decide) (x' := (⟨113, (-7), 0⟩ : S55)) (k55_mkM _ _ _ (⟨113, (-7), 0⟩ : S55) ) (fun _ hk => hk)
                have hx52_0 := hcc52 0 _ rfl
                (try simp only [show (k55).sz = 3 from rfl, Nat.mul_one, Nat.add_zero] at hx52_0)
                have hf52_0 := hfr52 0
                (try simp only [show (k55).sz = 3 from rfl, Nat.mul_one, Nat.add_zero] at hf52_0)
                have hx52_1 := hcc52 1 _ rfl
                (try simp only [show (k55).sz = 3 from rfl, Nat.mul_one, Nat.add_zero] at hx52_1)
                have hf52_1 := hfr52 1
                (try simp only [show (k55).sz = 3 from rfl, Nat.mul_one, Nat.add_zero] at hf52_1)
                have hx52_2 := hcc52 2 _ rfl
                (try simp only [show (k55).sz = 3 from rfl, Nat.mul_one, Nat.add_zero] at hx52_2)
                have hf52_2 := hfr52 2
                (try simp only [show (k55).sz = 3 from rfl, Nat.mul_one, Nat.add_zero] at hf52_2)
                clear hcl52 hcc52 hfr52 hM52
                go_wp2_with (first | ((with_reducible refine gate_store (t := 55) (p := 99) rfl ?_); refine store_event (t := 55) (p := 99) (v := ?vo_w53) (w1 := (((wr.setCell ⟨go50, (x16_2 : Int).toNat * 3, none⟩ (.int .u8 113)).setCell ⟨go50, (x16_2 : Int).toNat * 3 + 1, none⟩ (.int .i64 (-7))).setCell ⟨go50, (x16_2 : Int).toNat * 3 + 2, none⟩ (.int .i64 0))) ?hg ?ho ?hn ?hr ?_; (case ho => rfl); (case hg => rfl); (case hn => rfl); (case hr => first | (go_simp; done) | (go_simp; rfl)); intro w53 hw; have hg : wr.grownBy w53 (some go50) := (by rw [hw]; exact HP52.2); have hp_ : Kd.R k55 55 w53 w.heap.size (fun k_ => some k_ ≠ (v388 : Value).ownBlock) (.slice (some ⟨go50, 0, none⟩) x3_2.length co51) y406 := (by rw [hw, Ny406.out]; exact HP52.1); clear HP52; have n0_ := Aside0.mk (hp_); have n1_ := Aside0.mk (Kd.R_after (v := (.slice (some ⟨go50, 0, none⟩) x3_2.length co51)) (v1 := (.slice (some ⟨go50, 0, none⟩) x3_2.length co51)) (ok := (fun _ => True)) (by (with_reducible repeat (first | apply Kd.R_alloc | apply Kd.R_drewN | apply Kd.R_drew)); exact Kd.R_mono HO_5.out (fun _ hk => ⟨trivial, hk⟩)) hg (.inl rfl)); have n2_ := Aside0.mk (Kd.R_over' (v := (.slice (some ⟨go50, 0, none⟩) x3_2.length co51)) (by (with_reducible repeat (first | apply Kd.R_alloc | apply Kd.R_drewN | apply Kd.R_drew)); exact HO_11.out) (Kd.R_typed HO_3.out) (by decide) hg); have n3_ := Aside0.mk (Kd.R_over' (v := (.slice (some ⟨go50, 0, none⟩) x3_2.length co51)) (by (with_reducible repeat (first | apply Kd.R_alloc | apply Kd.R_drewN | apply Kd.R_drew)); exact HO_13.out) (Kd.R_typed HO_3.out) (by decide) hg); have n4_ := Aside0.mk ((by rw [hw]; exact below_set (below_set (below_set (HB.out) GB50.out) GB50.out) GB50.out : Below w.heap.size w w53)); clear HO_3; clear HO_5; clear HO_11; clear HO_13; clear HB; have HO_3 := n0_; have HO_5 := n1_; have HO_11 := n2_; have HO_13 := n3_; have HB := n4_; clear n0_ n1_ n2_ n3_ n4_; clear hg hw hp_))
                go_roundg k2
                case measure => have := HJ8.out; have := HK2.out; omega
                case rel => exact ⟨(y406), (wrap64 (x16_2 + 1)), (by first | rfl | (simp; done) | (simp [*]; done)), H', ⟨by have := HJ8.out; have := HK2.out; omega⟩, ⟨by (with_reducible repeat (first | apply Kd.R_alloc | apply Kd.R_drewN | apply Kd.R_drew)); exact HO_3.out⟩, ⟨by (with_reducible repeat (first | apply Kd.R_alloc | apply Kd.R_drewN | apply Kd.R_drew)); exact Kd.R_mono HO_5.out (fun _ hk => hk.2)⟩, ⟨by (with_reducible repeat (first | apply Kd.R_alloc | apply Kd.R_drewN | apply Kd.R_drew)); exact HO_11.out⟩, ⟨by (with_reducible repeat (first | apply Kd.R_alloc | apply Kd.R_drewN | apply Kd.R_drew)); exact HO_13.out⟩, ⟨by repeat (first | (with_reducible first | exact HB.out | apply below_alloc | apply pw_below_drewN | apply below_drew1) | exact HB.out)⟩⟩
              · rw [if_neg c49] at H
                exact absurd H (by simp)
            · rw [if_neg c48] at H
              have c48b0 : decide (x16_2 < (x3_2.length : Int)) = false := decide_eq_false c48
              clear c48
              have H' := Aside0.mk H
              clear H
              obtain ⟨Ao54, co54, eo54⟩ := Kd.R_slice HO_3.out
              subst eo54
              go_wp2
              go_loopg [17] k2 (fun kq v17 w' => ∃ (x11_3 : List (S70)) (x17_3 : Int), v17 = .int .i64 x17_3 ∧ Aside0 (regletlaw01_PhysTells.l1 kq a0 t386 x11_3 t398 x17_3 = some r) ∧ Aside0 (kq ≤ k2) ∧ Aside0 (Kd.R k55 55 w' w.heap.size (fun _ => True) v388 t386) ∧ Aside0 (Kd.R k70 70 w' w.heap.size (fun k_ => some k_ ≠ (v400 : Value).ownBlock) v396 x11_3) ∧ Aside0 (Kd.R k70 70 w' w.heap.size (fun k_ => some k_ ≠ (v396 : Value).ownBlock) v400 t398) ∧ Aside0 (Below w.heap.size w w'))
              case atStart => exact ⟨(t394), (0), (by first | rfl | (simp; done) | (simp [*]; done)), H', ⟨Nat.le_refl _⟩, ⟨by (with_reducible repeat (first | apply Kd.R_alloc | apply Kd.R_drewN | apply Kd.R_drew)); exact Kd.R_mono HO_5.out (fun _ hk => trivial)⟩, ⟨by (with_reducible repeat (first | apply Kd.R_alloc | apply Kd.R_drewN | apply Kd.R_drew)); exact HO_11.out⟩, ⟨by (with_reducible repeat (first | apply Kd.R_alloc | apply Kd.R_drewN | apply Kd.R_drew)); exact HO_13.out⟩, ⟨by repeat (first | (with_reducible first | exact HB.out | apply below_alloc | apply pw_below_drewN | apply below_drew1) | exact HB.out)⟩⟩
              case round =>
                clear H'
                try clear c1
                try clear c2
                try clear p2
                try clear c4
                try clear c5
                try clear p5
                try clear q5
                try clear hx5
                try clear hf5
                try clear p6
                try clear c9
                try clear c18
                try clear c19
                try clear c19b0
                try clear c19b1
                try clear c20
                try clear c20b0
                try clear c20b1
                try clear c21
                try clear c21b0
                try clear c21b1
                try clear c23
                try clear c24
                try clear c24b0
                try clear c24b1
                try clear c41
                try clear c42
                try clear c43
                try clear c44
                try clear c45
                try clear c46
                try clear c47
                try clear c48
                try clear c48b0
                try clear c49
                try clear c49b0
                try clear c50
                try clear p50
                try clear q50
                try clear hx50
                try clear hf50
                try clear c52
                try clear hx52
                try clear hf52
                try clear hx50_0
                try clear hx50_1
                try clear hx50_2
                try clear hx52_0
                try clear hx52_1
                try clear hx52_2
                try clear p2
                try clear p50
                try clear q50
                obtain ⟨x11_3, x17_3, rfl, HA, HK3, HO_5, HO_11, HO_13, HB⟩ := hrel
                cases gk with
                | zero => exact absurd HA.out (by simp [regletlaw01_PhysTells.l1])
                | succ k3 =>
                  have H := HA.out
                  clear HA
                  simp only [regletlaw01_PhysTells.l1] at H
                  by_cases c55 : x17_3 < (x11_3.length : Int)
                  · rw [if_pos c55] at H
                    have c55b0 : decide (x17_3 < (x11_3.length : Int)) = true := decide_eq_true c55
                    clear c55
                    by_cases c56 : 0 ≤ x17_3
                    · rw [if_pos c56] at H
                      have c56b0 : decide (0 ≤ x17_3) = true := decide_eq_true c56
                      clear c56
                      obtain ⟨y407, hy407⟩ : ∃ y_ : List (S70), y_ = (x11_3.set (x17_3 : Int).toNat (⟨(-7), 0⟩ : S70)) := ⟨_, rfl⟩
                      replace H : (regletlaw01_PhysTells.l1 k3 a0 t386 y407 t398 (wrap64 (x17_3 + 1))) = some r := by first | (rw [hy407]; with_reducible exact H) | (have H2_ := (Option.bind_some _ _).symm.trans H; rw [hy407]; with_reducible exact H2_) | (have H2_ := (Option.bind_some _ _).symm.trans H; with_reducible exact H2_) | with_reducible exact H | (rw [hy407]; exact H) | exact H
                      have Ny407 := Aside0.mk hy407
                      clear hy407
                      have H' := Aside0.mk H
                      clear H
                      obtain ⟨Ao58, co58, eo58⟩ := Kd.R_slice HO_11.out
                      subst eo58
                      have p57 : 0 ≤ (x17_3 : Int) := of_decide_eq_true (by first | (with_reducible assumption) | assumption)
                      have q57 : (x17_3 : Int) < ((x11_3.length : Int) : Int) := of_decide_eq_true (by first | (with_reducible assumption) | assumption)
                      obtain ⟨go57, co57, eo57, gb57, gl57, cl57, HG57⟩ := Kd.R_form HO_11.out (by omega)
                      (first | cases eo57 | (injection eo57 with ea_ en_ ec_; (first | subst ea_ | (injection ea_ with ea_; subst ea_)); subst ec_; clear en_))
                      have GB57 := Aside0.mk gb57
                      have GG57 := Aside0.mk HG57
                      clear gb57 gl57 HG57
                      obtain ⟨ce57, hcl57, hM57, hcc57, hfr57⟩ := Kd.R_elem HO_11.out z70 (x17_3 : Int) p57 q57
                      obtain rfl := k70_openM hM57
                      have hx57_0 : wr.cell? ⟨go57, (x17_3 : Int).toNat * 2, none⟩ = some (.int .i64 ((rd_T70 x11_3 x17_3).f0)) := hcc57 0 _ rfl
                      have hx57_1 : wr.cell? ⟨go57, (x17_3 : Int).toNat * 2 + 1, none⟩ = some (.int .i64 ((rd_T70 x11_3 x17_3).f1)) := hcc57 1 _ rfl
                      have hf57_0 : wr.frozen? ⟨go57, (x17_3 : Int).toNat * 2, none⟩ = false := hfr57 0
                      have hf57_1 : wr.frozen? ⟨go57, (x17_3 : Int).toNat * 2 + 1, none⟩ = false := hfr57 1
                      clear hcl57 hcc57 hfr57 hM57
                      replace p57 := eq_true p57
                      replace q57 := eq_true q57
                      have HX59 := Aside0.mk (show Kd.R k70 70 wr w.heap.size (fun k_ => some k_ ≠ (v400 : Value).ownBlock) (.slice (some ⟨go57, 0, none⟩) x11_3.length co58) x11_3 from (by (with_reducible repeat (first | apply Kd.R_alloc | apply Kd.R_drewN | apply Kd.R_drew)); exact HO_11.out))
                      obtain ⟨ce59, hcl59, hM59, hcc59, hfr59⟩ := Kd.R_elem HX59.out z70 (x17_3 : Int) (of_decide_eq_true (by first | (with_reducible assumption) | assumption)) (by have h_ : (x17_3 : Int) < ((x11_3.length : Int) : Int) := of_decide_eq_true (by first | (with_reducible assumption) | assumption); first | exact h_ | (have e_ := (Kd.R_reads' HO_11.out).1; omega) | simpa using h_)
                      obtain rfl := k70_openM hM59
                      have HP59 := Kd.R_seg HX59.out (x17_3 : Int) (of_decide_eq_true (by first | (with_reducible assumption) | assumption)) (by have h_ : (x17_3 : Int) < ((x11_3.length : Int) : Int) := of_decide_eq_true (by first | (with_reducible assumption) | assumption); first | exact h_ | (have e_ := (Kd.R_reads' HO_11.out).1; omega) | simpa using h_) (seg := [.int .i64 (-7), .int .i64 0]) (j := 0) hcl59 hcc59 (show 2 ≤ 2 from by decide) (x' := (⟨(-7), 0⟩ : S70)) (k70_mkM _ _ _ (⟨(-7), 0⟩ : S70) ) (fun _ hk => hk)
                      have hx59_0 := hcc59 0 _ rfl
                      (try simp only [show (k70).sz = 2 from rfl, Nat.mul_one, Nat.add_zero] at hx59_0)
                      have hf59_0 := hfr59 0
                      (try simp only [show (k70).sz = 2 from rfl, Nat.mul_one, Nat.add_zero] at hf59_0)
                      have hx59_1 := hcc59 1 _ rfl
                      (try simp only [show (k70).sz = 2 from rfl, Nat.mul_one, Nat.add_zero] at hx59_1)
                      have hf59_1 := hfr59 1
                      (try simp only [show (k70).sz = 2 from rfl, Nat.mul_one, Nat.add_zero] at hf59_1)
                      clear hcl59 hcc59 hfr59 hM59
                      go_wp2_with (first | ((with_reducible refine gate_store (t := 70) (p := 109) rfl ?_); refine store_event (t := 70) (p := 109) (v := ?vo_w60) (w1 := ((wr.setCell ⟨go57, (x17_3 : Int).toNat * 2, none⟩ (.int .i64 (-7))).setCell ⟨go57, (x17_3 : Int).toNat * 2 + 1, none⟩ (.int .i64 0))) ?hg ?ho ?hn ?hr ?_; (case ho => rfl); (case hg => rfl); (case hn => rfl); (case hr => first | (go_simp; done) | (go_simp; rfl)); intro w60 hw; have hg : wr.grownBy w60 (some go57) := (by rw [hw]; exact HP59.2); have hp_ : Kd.R k70 70 w60 w.heap.size (fun k_ => some k_ ≠ (v400 : Value).ownBlock) (.slice (some ⟨go57, 0, none⟩) x11_3.length co58) y407 := (by rw [hw, Ny407.out]; exact HP59.1); clear HP59; have n0_ := Aside0.mk (Kd.R_over' (v := (.slice (some ⟨go57, 0, none⟩) x11_3.length co58)) (by (with_reducible repeat (first | apply Kd.R_alloc | apply Kd.R_drewN | apply Kd.R_drew)); exact HO_5.out) (Kd.R_typed HO_11.out) (by decide) hg); have n1_ := Aside0.mk (hp_); have n2_ := Aside0.mk (Kd.R_after (v := (.slice (some ⟨go57, 0, none⟩) x11_3.length co58)) (v1 := (.slice (some ⟨go57, 0, none⟩) x11_3.length co58)) (ok := (fun _ => True)) (by (with_reducible repeat (first | apply Kd.R_alloc | apply Kd.R_drewN | apply Kd.R_drew)); exact Kd.R_mono HO_13.out (fun _ hk => ⟨trivial, hk⟩)) hg (.inl rfl)); have n3_ := Aside0.mk ((by rw [hw]; exact below_set (below_set (HB.out) GB57.out) GB57.out : Below w.heap.size w w60)); clear HO_5; clear HO_11; clear HO_13; clear HB; have HO_5 := n0_; have HO_11 := n1_; have HO_13 := n2_; have HB := n3_; clear n0_ n1_ n2_ n3_; clear hg hw hp_))
                      go_roundg k3
                      case measure => have := HJ8.out; have := HK2.out; have := HK3.out; omega
                      case rel => exact ⟨(y407), (wrap64 (x17_3 + 1)), (by first | rfl | (simp; done) | (simp [*]; done)), H', ⟨by have := HJ8.out; have := HK2.out; have := HK3.out; omega⟩, ⟨by (with_reducible repeat (first | apply Kd.R_alloc | apply Kd.R_drewN | apply Kd.R_drew)); exact HO_5.out⟩, ⟨by (with_reducible repeat (first | apply Kd.R_alloc | apply Kd.R_drewN | apply Kd.R_drew)); exact HO_11.out⟩, ⟨by (with_reducible repeat (first | apply Kd.R_alloc | apply Kd.R_drewN | apply Kd.R_drew)); exact Kd.R_mono HO_13.out (fun _ hk => hk.2)⟩, ⟨by repeat (first | (with_reducible first | exact HB.out | apply below_alloc | apply pw_below_drewN | apply below_drew1) | exact HB.out)⟩⟩
                    · rw [if_neg c56] at H
                      exact absurd H (by simp)
                  · rw [if_neg c55] at H
                    have c55b0 : decide (x17_3 < (x11_3.length : Int)) = false := decide_eq_false c55
                    clear c55
                    replace H := Option.bind_eq_some_iff.mp H
                    obtain ⟨⟨t408, t409⟩, A610, H⟩ := H
                    replace H : ((phys_Splices.f a0).bind fun bt412 => ((regletref01_SameChars.f k3 t408 t386).bind fun t416 => (if t416 = true then ((regletref01_SameSpans.f k3 bt412.1 t398).bind fun t417 => (some t417)) else (some false)))) = some r := H
                    have A61 := Aside0.mk A610
                    clear A610
                    replace H := Option.bind_eq_some_iff.mp H
                    obtain ⟨⟨t412, t413⟩, A620, H⟩ := H
                    replace H : ((regletref01_SameChars.f k3 t408 t386).bind fun t416 => (if t416 = true then ((regletref01_SameSpans.f k3 t412 t398).bind fun t417 => (some t417)) else (some false))) = some r := H
                    have A62 := Aside0.mk A620
                    clear A620
                    replace H := Option.bind_eq_some_iff.mp H
                    obtain ⟨t416, A630, H⟩ := H
                    replace H : (if t416 = true then ((regletref01_SameSpans.f k3 t412 t398).bind fun t417 => (some t417)) else (some false)) = some r := H
                    have A63 := Aside0.mk A630
                    clear A630
                    by_cases c64 : t416 = true
                    · subst c64
                      have H1 : ((regletref01_SameSpans.f k3 t412 t398).bind fun t417 => (some t417)) = some r := by rw [if_pos rfl] at H; exact H
                      clear H
                      have H := H1
                      clear H1
                      replace H := Option.bind_eq_some_iff.mp H
                      obtain ⟨t417, A650, H⟩ := H
                      replace H : (some t417) = some r := H
                      have A65 := Aside0.mk A650
                      clear A650
                      obtain rfl := Option.some.inj H
                      obtain ⟨Ao66, co66, eo66⟩ := Kd.R_slice HO_11.out
                      subst eo66
                      go_wp2_with (first | ((with_reducible refine gate_callee (f := 41) rfl ?_); refine goesL_ (some 112) rfl rfl Try.func41 (by kernel_rfl) rfl #[.string a0] rfl (by (try simp only [List.map_toArray, List.map_cons, List.map_nil]); first | done | rfl | (simp only [List.length_drop, List.length_take]; rfl)) ?_; (with_reducible refine (phys_Chars.calls a0 t408 t409 _ A61.out).mono ?_); rintro e w67 ⟨v410, rfl, ho0, hb⟩; refine ⟨_, rfl, ?_⟩; have n0_ := Aside0.mk (Kd.R_elder' (by (with_reducible repeat (first | apply Kd.R_alloc | apply Kd.R_drewN | apply Kd.R_drew)); exact HO_5.out) (Kd.R_base ho0) hb); have n1_ := Aside0.mk (Kd.R_below (by (with_reducible repeat (first | apply Kd.R_alloc | apply Kd.R_drewN | apply Kd.R_drew)); exact HO_11.out) hb); have n2_ := Aside0.mk (Kd.R_below (by (with_reducible repeat (first | apply Kd.R_alloc | apply Kd.R_drewN | apply Kd.R_drew)); exact HO_13.out) hb); have n3_ := Aside0.mk (Kd.R_lower (Kd.R_new' ho0 (Kd.R_lt (by (with_reducible repeat (first | apply Kd.R_alloc | apply Kd.R_drewN | apply Kd.R_drew)); exact HO_5.out))) (below_size (by repeat (first | (with_reducible first | exact HB.out | apply below_alloc | apply pw_below_drewN | apply below_drew1) | exact HB.out)))); have n4_ := Aside0.mk (below_step (by repeat (first | (with_reducible first | exact HB.out | apply below_alloc | apply pw_below_drewN | apply below_drew1) | exact HB.out)) hb); clear HO_5; clear HO_11; clear HO_13; clear HB; have HO_5 := n0_; have HO_11 := n1_; have HO_13 := n2_; have HO411 := n3_; have HB := n4_; clear n0_ n1_ n2_ n3_ n4_; (try clear hb); (try clear hb2); (try clear hk); (try clear hi); (try clear ho0)) | ((with_reducible refine gate_callee (f := 45) rfl ?_); refine goesL_ (some 117) rfl rfl Try.func45 (by kernel_rfl) rfl #[.string a0] rfl (by (try simp only [List.map_toArray, List.map_cons, List.map_nil]); first | done | rfl | (simp only [List.length_drop, List.length_take]; rfl)) ?_; (with_reducible refine (phys_Splices.calls a0 t412 t413 _ A62.out).mono ?_); rintro e w68 ⟨v414, rfl, ho0, hb⟩; refine ⟨_, rfl, ?_⟩; have n0_ := Aside0.mk (Kd.R_below (by (with_reducible repeat (first | apply Kd.R_alloc | apply Kd.R_drewN | apply Kd.R_drew)); exact HO_5.out) hb); have n1_ := Aside0.mk (Kd.R_elder' (by (with_reducible repeat (first | apply Kd.R_alloc | apply Kd.R_drewN | apply Kd.R_drew)); exact HO_11.out) (Kd.R_base ho0) hb); have n2_ := Aside0.mk (Kd.R_elder' (by (with_reducible repeat (first | apply Kd.R_alloc | apply Kd.R_drewN | apply Kd.R_drew)); exact HO_13.out) (Kd.R_base ho0) hb); have n3_ := Aside0.mk (Kd.R_below (by (with_reducible repeat (first | apply Kd.R_alloc | apply Kd.R_drewN | apply Kd.R_drew)); exact HO411.out) hb); have n4_ := Aside0.mk (Kd.R_lower (Kd.R_new' (Kd.R_new' ho0 (Kd.R_lt (by (with_reducible repeat (first | apply Kd.R_alloc | apply Kd.R_drewN | apply Kd.R_drew)); exact HO_11.out))) (Kd.R_lt (by (with_reducible repeat (first | apply Kd.R_alloc | apply Kd.R_drewN | apply Kd.R_drew)); exact HO_13.out))) (below_size (by repeat (first | (with_reducible first | exact HB.out | apply below_alloc | apply pw_below_drewN | apply below_drew1) | exact HB.out)))); have n5_ := Aside0.mk (below_step (by repeat (first | (with_reducible first | exact HB.out | apply below_alloc | apply pw_below_drewN | apply below_drew1) | exact HB.out)) hb); clear HO_5; clear HO_11; clear HO_13; clear HO411; clear HB; have HO_5 := n0_; have HO_11 := n1_; have HO_13 := n2_; have HO411 := n3_; have HO415 := n4_; have HB := n5_; clear n0_ n1_ n2_ n3_ n4_ n5_; (try clear hb); (try clear hb2); (try clear hk); (try clear hi); (try clear ho0); obtain ⟨Ao69, co69, eo69⟩ := Kd.R_slice HO411.out; subst eo69; obtain ⟨Ao70, co70, eo70⟩ := Kd.R_slice HO_5.out; subst eo70) | ((with_reducible refine gate_callee (f := 48) rfl ?_); refine goesL_ (some 122) rfl rfl Try.func48 (by kernel_rfl) rfl #[.slice Ao69 t408.length co69, .slice Ao70 t386.length co70] rfl (by (try simp only [List.map_toArray, List.map_cons, List.map_nil]); first | done | rfl | (simp only [List.length_drop, List.length_take]; rfl)) ?_; (with_reducible refine (regletref01_SameChars.calls k3 _ _ t408 _ _ t386 true _ ?side1 ?side2 ?side3 ?side4 A63.out).mono ?_); (case side1 => repeat (first | exact (Kd.R_reads' HO411.out).2.2 | (with_reducible refine Kd.C_alloc ?_ _) | (with_reducible refine Kd.C_drewN ?_ _) | (with_reducible refine Kd.C_drew ?_))); (case side2 => exact (Kd.R_reads' HO411.out).2.1); (case side3 => repeat (first | exact (Kd.R_reads' HO_5.out).2.2 | (with_reducible refine Kd.C_alloc ?_ _) | (with_reducible refine Kd.C_drewN ?_ _) | (with_reducible refine Kd.C_drew ?_))); (case side4 => exact (Kd.R_reads' HO_5.out).2.1); rintro e w' ⟨rfl, ⟨nd, rfl⟩⟩; refine ⟨_, rfl, ?_⟩; obtain ⟨Ao71, co71, eo71⟩ := Kd.R_slice HO415.out; subst eo71; obtain ⟨Ao72, co72, eo72⟩ := Kd.R_slice HO_13.out; subst eo72) | (go_at_call 49; (with_reducible refine (regletref01_SameSpans.calls k3 _ _ t412 _ _ t398 t417 _ ?side1 ?side2 ?side3 ?side4 A65.out).mono ?_); (case side1 => repeat (first | exact (Kd.R_reads' HO415.out).2.2 | (with_reducible refine Kd.C_alloc ?_ _) | (with_reducible refine Kd.C_drewN ?_ _) | (with_reducible refine Kd.C_drew ?_))); (case side2 => exact (Kd.R_reads' HO415.out).2.1); (case side3 => repeat (first | exact (Kd.R_reads' HO_13.out).2.2 | (with_reducible refine Kd.C_alloc ?_ _) | (with_reducible refine Kd.C_drewN ?_ _) | (with_reducible refine Kd.C_drew ?_))); (case side4 => exact (Kd.R_reads' HO_13.out).2.1); rintro e w' ⟨rfl, ⟨nd, rfl⟩⟩))
                      go_ret
                      exact ⟨by first | rfl | (simp [errW_none, errW_some] <;> rfl) | (simp [*, errW_none, errW_some] <;> rfl), by repeat (first | (with_reducible first | exact HB.out | apply below_alloc | apply pw_below_drewN | apply below_drew1) | exact HB.out)⟩
                    · replace c64 := Bool.eq_false_iff.mpr c64
                      subst c64
                      have H1 : (some false) = some r := by rw [if_neg (show ¬ (false = true) by decide)] at H; exact H
                      clear H
                      have H := H1
                      clear H1
                      obtain rfl := Option.some.inj H
                      obtain ⟨Ao73, co73, eo73⟩ := Kd.R_slice HO_11.out
                      subst eo73
                      go_wp2_with (first | ((with_reducible refine gate_callee (f := 41) rfl ?_); refine goesL_ (some 112) rfl rfl Try.func41 (by kernel_rfl) rfl #[.string a0] rfl (by (try simp only [List.map_toArray, List.map_cons, List.map_nil]); first | done | rfl | (simp only [List.length_drop, List.length_take]; rfl)) ?_; (with_reducible refine (phys_Chars.calls a0 t408 t409 _ A61.out).mono ?_); rintro e w74 ⟨v410, rfl, ho0, hb⟩; refine ⟨_, rfl, ?_⟩; have n0_ := Aside0.mk (Kd.R_elder' (by (with_reducible repeat (first | apply Kd.R_alloc | apply Kd.R_drewN | apply Kd.R_drew)); exact HO_5.out) (Kd.R_base ho0) hb); have n1_ := Aside0.mk (Kd.R_below (by (with_reducible repeat (first | apply Kd.R_alloc | apply Kd.R_drewN | apply Kd.R_drew)); exact HO_11.out) hb); have n2_ := Aside0.mk (Kd.R_below (by (with_reducible repeat (first | apply Kd.R_alloc | apply Kd.R_drewN | apply Kd.R_drew)); exact HO_13.out) hb); have n3_ := Aside0.mk (Kd.R_lower (Kd.R_new' ho0 (Kd.R_lt (by (with_reducible repeat (first | apply Kd.R_alloc | apply Kd.R_drewN | apply Kd.R_drew)); exact HO_5.out))) (below_size (by repeat (first | (with_reducible first | exact HB.out | apply below_alloc | apply pw_below_drewN | apply below_drew1) | exact HB.out)))); have n4_ := Aside0.mk (below_step (by repeat (first | (with_reducible first | exact HB.out | apply below_alloc | apply pw_below_drewN | apply below_drew1) | exact HB.out)) hb); clear HO_5; clear HO_11; clear HO_13; clear HB; have HO_5 := n0_; have HO_11 := n1_; have HO_13 := n2_; have HO411 := n3_; have HB := n4_; clear n0_ n1_ n2_ n3_ n4_; (try clear hb); (try clear hb2); (try clear hk); (try clear hi); (try clear ho0)) | ((with_reducible refine gate_callee (f := 45) rfl ?_); refine goesL_ (some 117) rfl rfl Try.func45 (by kernel_rfl) rfl #[.string a0] rfl (by (try simp only [List.map_toArray, List.map_cons, List.map_nil]); first | done | rfl | (simp only [List.length_drop, List.length_take]; rfl)) ?_; (with_reducible refine (phys_Splices.calls a0 t412 t413 _ A62.out).mono ?_); rintro e w75 ⟨v414, rfl, ho0, hb⟩; refine ⟨_, rfl, ?_⟩; have n0_ := Aside0.mk (Kd.R_below (by (with_reducible repeat (first | apply Kd.R_alloc | apply Kd.R_drewN | apply Kd.R_drew)); exact HO_5.out) hb); have n1_ := Aside0.mk (Kd.R_elder' (by (with_reducible repeat (first | apply Kd.R_alloc | apply Kd.R_drewN | apply Kd.R_drew)); exact HO_11.out) (Kd.R_base ho0) hb); have n2_ := Aside0.mk (Kd.R_elder' (by (with_reducible repeat (first | apply Kd.R_alloc | apply Kd.R_drewN | apply Kd.R_drew)); exact HO_13.out) (Kd.R_base ho0) hb); have n3_ := Aside0.mk (Kd.R_below (by (with_reducible repeat (first | apply Kd.R_alloc | apply Kd.R_drewN | apply Kd.R_drew)); exact HO411.out) hb); have n4_ := Aside0.mk (Kd.R_lower (Kd.R_new' (Kd.R_new' ho0 (Kd.R_lt (by (with_reducible repeat (first | apply Kd.R_alloc | apply Kd.R_drewN | apply Kd.R_drew)); exact HO_11.out))) (Kd.R_lt (by (with_reducible repeat (first | apply Kd.R_alloc | apply Kd.R_drewN | apply Kd.R_drew)); exact HO_13.out))) (below_size (by repeat (first | (with_reducible first | exact HB.out | apply below_alloc | apply pw_below_drewN | apply below_drew1) | exact HB.out)))); have n5_ := Aside0.mk (below_step (by repeat (first | (with_reducible first | exact HB.out | apply below_alloc | apply pw_below_drewN | apply below_drew1) | exact HB.out)) hb); clear HO_5; clear HO_11; clear HO_13; clear HO411; clear HB; have HO_5 := n0_; have HO_11 := n1_; have HO_13 := n2_; have HO411 := n3_; have HO415 := n4_; have HB := n5_; clear n0_ n1_ n2_ n3_ n4_ n5_; (try clear hb); (try clear hb2); (try clear hk); (try clear hi); (try clear ho0); obtain ⟨Ao76, co76, eo76⟩ := Kd.R_slice HO411.out; subst eo76; obtain ⟨Ao77, co77, eo77⟩ := Kd.R_slice HO_5.out; subst eo77) | ((with_reducible refine gate_callee (f := 48) rfl ?_); refine goesL_ (some 122) rfl rfl Try.func48 (by kernel_rfl) rfl #[.slice Ao76 t408.length co76, .slice Ao77 t386.length co77] rfl (by (try simp only [List.map_toArray, List.map_cons, List.map_nil]); first | done | rfl | (simp only [List.length_drop, List.length_take]; rfl)) ?_; (with_reducible refine (regletref01_SameChars.calls k3 _ _ t408 _ _ t386 false _ ?side1 ?side2 ?side3 ?side4 A63.out).mono ?_); (case side1 => repeat (first | exact (Kd.R_reads' HO411.out).2.2 | (with_reducible refine Kd.C_alloc ?_ _) | (with_reducible refine Kd.C_drewN ?_ _) | (with_reducible refine Kd.C_drew ?_))); (case side2 => exact (Kd.R_reads' HO411.out).2.1); (case side3 => repeat (first | exact (Kd.R_reads' HO_5.out).2.2 | (with_reducible refine Kd.C_alloc ?_ _) | (with_reducible refine Kd.C_drewN ?_ _) | (with_reducible refine Kd.C_drew ?_))); (case side4 => exact (Kd.R_reads' HO_5.out).2.1); rintro e w' ⟨rfl, ⟨nd, rfl⟩⟩; refine ⟨_, rfl, ?_⟩))
                      go_ret
                      exact ⟨by first | rfl | (simp [errW_none, errW_some] <;> rfl) | (simp [*, errW_none, errW_some] <;> rfl), by repeat (first | (with_reducible first | exact HB.out | apply below_alloc | apply pw_below_drewN | apply below_drew1) | exact HB.out)⟩

/-- THE ONE PURE STATEMENT of regletlaw01_PhysTells: yours. -/
def regletlaw01_PhysTells.Pure : Prop := ∀ (a0 : ByteArray), a0.size ≤ 140737488351232 → ∃ k, regletlaw01_PhysTells.f k a0 = some true
theorem regletlaw01_PhysTells.walk (P : regletlaw01_PhysTells.Pure) (a0 : ByteArray) (w : World) (w0 : a0.size ≤ 140737488351232) :
    Calls Try.prog 9 #[.string a0] w fun e w' => e = .returned (.bool true) ∧ Below w.heap.size w w' := by
  obtain ⟨k, h⟩ := P a0 w0
  refine (regletlaw01_PhysTells.calls k a0 true w h).mono ?_
  rintro e w' ⟨rfl, hd⟩
  exact ⟨rfl, hd⟩

end Go.Proofs.Ytonfmnohmigjpaa.P
