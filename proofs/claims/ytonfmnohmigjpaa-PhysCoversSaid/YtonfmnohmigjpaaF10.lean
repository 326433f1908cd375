-- Written by wip/pr.py (the kit's printer, driven for functions that are proved by hand beside it).
import Derived.Test.YtonfmnohmigjpaaF0
import Derived.Test.YtonfmnohmigjpaaF34
import Derived.Test.YtonfmnohmigjpaaF40
import Derived.Test.YtonfmnohmigjpaaG41
import Derived.Test.YtonfmnohmigjpaaG45
namespace Go.Proofs.Ytonfmnohmigjpaa.P
open Go.RowKit Go.Proofs.YtonfmnohmigjpaaW.PrintWords Go.Proofs.YtonfmnohmigjpaaW.PrintLast Go.Proofs.YtonfmnohmigjpaaW.PrintMore
attribute [local go_sem] max2_int min2_int max_two min_two max_three min_three max_four min_four   -- for this text's walks alone
set_option linter.unusedVariables false
set_option linter.unusedSimpArgs false

/-! ### regletlaw01_PhysCovers: function 10 -/
mutual
def regletlaw01_PhysCovers.j0 : Nat → ByteArray → Bool → List (S55) → Int → List (S70) → Int → Bool → Option (Bool)
  | 0, _, _, _, _, _, _, _ => none
  | k + 1, x0, x3, x4, x5, x6, x7, x31 => if x31 = true then (if x3 = true then (if x5 = x7 then (if (x4.length : Int) = 0 then (some ((x6.length : Int) == 0)) else (some false)) else (some false)) else (some false)) else (regletlaw01_PhysCovers.l0 k x0 x4 x6 x7 0 0 0)
def regletlaw01_PhysCovers.l0 : Nat → ByteArray → List (S55) → List (S70) → Int → Int → Int → Int → Option (Bool)
  | 0, _, _, _, _, _, _, _ => none
  | k + 1, x0, x4, x6, x7, x8, x9, x10 => if x10 ≤ (x4.length : Int) then (regletlaw01_PhysCovers.l1 k x0 x4 x6 x7 x8 x9 x10) else (if x8 = (x0.size : Int) then (if x9 = (x6.length : Int) then (some (x7 == 0)) else (some false)) else (some false))
def regletlaw01_PhysCovers.l1 : Nat → ByteArray → List (S55) → List (S70) → Int → Int → Int → Int → Option (Bool)
  | 0, _, _, _, _, _, _, _ => none
  | k + 1, x0, x4, x6, x7, x8, x9, x10 => if x9 < (x6.length : Int) then (if 0 ≤ x9 then (regletlaw01_PhysCovers.j3 k x0 x4 x6 x7 x8 x9 x10 (((rd_T70 x6 x9).f0) == x8)) else (none)) else (regletlaw01_PhysCovers.j3 k x0 x4 x6 x7 x8 x9 x10 false)
def regletlaw01_PhysCovers.j3 : Nat → ByteArray → List (S55) → List (S70) → Int → Int → Int → Int → Bool → Option (Bool)
  | 0, _, _, _, _, _, _, _, _ => none
  | k + 1, x0, x4, x6, x7, x8, x9, x10, x66 => if x66 = true then (if 0 ≤ x9 then (if x9 < (x6.length : Int) then (if (wrap64 (((rd_T70 x6 x9).f1) - ((rd_T70 x6 x9).f0))) = 2 then (if 0 ≤ (wrap64 (((rd_T70 x6 x9).f1) - 1)) then (if (wrap64 (((rd_T70 x6 x9).f1) - 1)) < (x0.size : Int) then (if (bt x0 (wrap64 (((rd_T70 x6 x9).f1) - 1))) = 10 then (regletlaw01_PhysCovers.l1 k x0 x4 x6 x7 ((rd_T70 x6 x9).f1) (wrap64 (x9 + 1)) x10) else (some false)) else (none)) else (none)) else (if (wrap64 (((rd_T70 x6 x9).f1) - ((rd_T70 x6 x9).f0))) = 4 then (if 0 ≤ (wrap64 (((rd_T70 x6 x9).f1) - 1)) then (if (wrap64 (((rd_T70 x6 x9).f1) - 1)) < (x0.size : Int) then (if (bt x0 (wrap64 (((rd_T70 x6 x9).f1) - 1))) = 10 then (regletlaw01_PhysCovers.l1 k x0 x4 x6 x7 ((rd_T70 x6 x9).f1) (wrap64 (x9 + 1)) x10) else (some false)) else (none)) else (none)) else (some false))) else (none)) else (none)) else (if x10 = (x4.length : Int) then (if x8 = (x0.size : Int) then (if x9 = (x6.length : Int) then (some (x7 == 0)) else (some false)) else (some false)) else (if 0 ≤ x10 then (if x10 < (x4.length : Int) then (if ((rd_T55 x4 x10).f1) = x8 then (regletlaw01_PhysCovers.j4 k x0 x4 x6 x7 x8 x9 x10 (decide ((wrap64 (x8 + ((rd_T55 x4 x10).f2))) > (x0.size : Int)))) else (regletlaw01_PhysCovers.j4 k x0 x4 x6 x7 x8 x9 x10 true)) else (none)) else (none)))
def regletlaw01_PhysCovers.j4 : Nat → ByteArray → List (S55) → List (S70) → Int → Int → Int → Int → Bool → Option (Bool)
  | 0, _, _, _, _, _, _, _, _ => none
  | k + 1, x0, x4, x6, x7, x8, x9, x10, x124 => if x124 = true then (some false) else (if 0 ≤ x8 then (if x8 < (x0.size : Int) then (if 0 ≤ x10 then (if x10 < (x4.length : Int) then (if ((rd_T55 x4 x10).f2) = 3 then (if 0 ≤ (wrap64 (x8 + 2)) then (if (wrap64 (x8 + 2)) < (x0.size : Int) then ((phys_Third.f (bt x0 (wrap64 (x8 + 2)))).bind fun bt437 => (if bt437.2 = true then (if x8 ≤ (wrap64 (x8 + 2)) then (if (wrap64 (x8 + 2)) ≤ (x0.size : Int) then (regletlaw01_PhysCovers.j5 k x0 x4 x6 x7 x8 x9 x10 bt437.1 ((x0.extract (x8 : Int).toNat ((wrap64 (x8 + 2)) : Int).toNat).toList != ([63, 63] : List UInt8))) else (none)) else (none)) else (regletlaw01_PhysCovers.j5 k x0 x4 x6 x7 x8 x9 x10 bt437.1 true))) else (none)) else (none)) else (if ((rd_T55 x4 x10).f0) = (bt x0 x8) then (if ((rd_T55 x4 x10).f2) = 1 then (regletlaw01_PhysCovers.l0 k x0 x4 x6 x7 (wrap64 (x8 + ((rd_T55 x4 x10).f2))) x9 (wrap64 (x10 + 1))) else (some false)) else (some false))) else (none)) else (none)) else (none)) else (none))
def regletlaw01_PhysCovers.j5 : Nat → ByteArray → List (S55) → List (S70) → Int → Int → Int → Int → Int → Bool → Option (Bool)
  | 0, _, _, _, _, _, _, _, _, _ => none
  | k + 1, x0, x4, x6, x7, x8, x9, x10, x13, x151 => if x151 = true then (some false) else (if 0 ≤ x10 then (if x10 < (x4.length : Int) then (if ((rd_T55 x4 x10).f0) = x13 then (if ((rd_T55 x4 x10).f2) = 1 then (regletlaw01_PhysCovers.l0 k x0 x4 x6 x7 (wrap64 (x8 + ((rd_T55 x4 x10).f2))) x9 (wrap64 (x10 + 1))) else (if ((rd_T55 x4 x10).f2) = 3 then (regletlaw01_PhysCovers.l0 k x0 x4 x6 x7 (wrap64 (x8 + ((rd_T55 x4 x10).f2))) x9 (wrap64 (x10 + 1))) else (some false))) else (some false)) else (none)) else (none))
end
def regletlaw01_PhysCovers.f (k : Nat) (a0 : ByteArray) : Option (Bool) := (regletlaw01_alive.f).bind fun t418 => ((phys_Chars.f a0).bind fun bt419 => ((phys_Splices.f a0).bind fun bt423 => (if bt419.2 = 0 then (regletlaw01_PhysCovers.j0 k a0 t418 bt419.1 bt419.2 bt423.1 bt423.2 (!t418)) else (regletlaw01_PhysCovers.j0 k a0 t418 bt419.1 bt419.2 bt423.1 bt423.2 true))))
theorem regletlaw01_PhysCovers.mono_l : ∀ k, (∀ y0 y1 y2 y3 y4 y5 y6, LeO (regletlaw01_PhysCovers.j0 k y0 y1 y2 y3 y4 y5 y6) (regletlaw01_PhysCovers.j0 (k + 1) y0 y1 y2 y3 y4 y5 y6)) ∧ (∀ y0 y1 y2 y3 y4 y5 y6, LeO (regletlaw01_PhysCovers.l0 k y0 y1 y2 y3 y4 y5 y6) (regletlaw01_PhysCovers.l0 (k + 1) y0 y1 y2 y3 y4 y5 y6)) ∧ (∀ y0 y1 y2 y3 y4 y5 y6, LeO (regletlaw01_PhysCovers.l1 k y0 y1 y2 y3 y4 y5 y6) (regletlaw01_PhysCovers.l1 (k + 1) y0 y1 y2 y3 y4 y5 y6)) ∧ (∀ y0 y1 y2 y3 y4 y5 y6 y7, LeO (regletlaw01_PhysCovers.j3 k y0 y1 y2 y3 y4 y5 y6 y7) (regletlaw01_PhysCovers.j3 (k + 1) y0 y1 y2 y3 y4 y5 y6 y7)) ∧ (∀ y0 y1 y2 y3 y4 y5 y6 y7, LeO (regletlaw01_PhysCovers.j4 k y0 y1 y2 y3 y4 y5 y6 y7) (regletlaw01_PhysCovers.j4 (k + 1) y0 y1 y2 y3 y4 y5 y6 y7)) ∧ (∀ y0 y1 y2 y3 y4 y5 y6 y7 y8, LeO (regletlaw01_PhysCovers.j5 k y0 y1 y2 y3 y4 y5 y6 y7 y8) (regletlaw01_PhysCovers.j5 (k + 1) y0 y1 y2 y3 y4 y5 y6 y7 y8))
  | 0 => ⟨fun _ _ _ _ _ _ _ r h => by simp [regletlaw01_PhysCovers.j0] at h, fun _ _ _ _ _ _ _ r h => by simp [regletlaw01_PhysCovers.l0] at h, fun _ _ _ _ _ _ _ r h => by simp [regletlaw01_PhysCovers.l1] at h, fun _ _ _ _ _ _ _ _ r h => by simp [regletlaw01_PhysCovers.j3] at h, fun _ _ _ _ _ _ _ _ r h => by simp [regletlaw01_PhysCovers.j4] at h, fun _ _ _ _ _ _ _ _ _ r h => by simp [regletlaw01_PhysCovers.j5] at h⟩
  | k + 1 => by
    obtain ⟨ih0, ih1, ih2, ih3, ih4, ih5⟩ := regletlaw01_PhysCovers.mono_l k
    refine ⟨?_, ?_, ?_, ?_, ?_, ?_⟩
    · intro y0 y1 y2 y3 y4 y5 y6
      unfold regletlaw01_PhysCovers.j0
      repeat' first
      | (with_reducible exact ih0 _ _ _ _ _ _ _)
      | (with_reducible exact ih1 _ _ _ _ _ _ _)
      | (with_reducible exact ih2 _ _ _ _ _ _ _)
      | (with_reducible exact ih3 _ _ _ _ _ _ _ _)
      | (with_reducible exact ih4 _ _ _ _ _ _ _ _)
      | (with_reducible exact ih5 _ _ _ _ _ _ _ _ _)
      | (with_reducible exact LeO.refl _)
      | (with_reducible exact LeO.none _)
      | (with_reducible refine LeO.ite ?_ ?_)
      | (with_reducible refine LeO.bind ?_ (fun _ => ?_))
      | exact ih0 _ _ _ _ _ _ _
      | exact ih1 _ _ _ _ _ _ _
      | exact ih2 _ _ _ _ _ _ _
      | exact ih3 _ _ _ _ _ _ _ _
      | exact ih4 _ _ _ _ _ _ _ _
      | exact ih5 _ _ _ _ _ _ _ _ _
      | exact LeO.none _
      | refine LeO.ite ?_ ?_
      | refine LeO.bind ?_ (fun _ => ?_)
    · intro y0 y1 y2 y3 y4 y5 y6
      unfold regletlaw01_PhysCovers.l0
      repeat' first
      | (with_reducible exact ih0 _ _ _ _ _ _ _)
      | (with_reducible exact ih1 _ _ _ _ _ _ _)
      | (with_reducible exact ih2 _ _ _ _ _ _ _)
      | (with_reducible exact ih3 _ _ _ _ _ _ _ _)
      | (with_reducible exact ih4 _ _ _ _ _ _ _ _)
      | (with_reducible exact ih5 _ _ _ _ _ _ _ _ _)
      | (with_reducible exact LeO.refl _)
      | (with_reducible exact LeO.none _)
      | (with_reducible refine LeO.ite ?_ ?_)
      | (with_reducible refine LeO.bind ?_ (fun _ => ?_))
      | exact ih0 _ _ _ _ _ _ _
      | exact ih1 _ _ _ _ _ _ _
      | exact ih2 _ _ _ _ _ _ _
      | exact ih3 _ _ _ _ _ _ _ _
      | exact ih4 _ _ _ _ _ _ _ _
      | exact ih5 _ _ _ _ _ _ _ _ _
      | exact LeO.none _
      | refine LeO.ite ?_ ?_
      | refine LeO.bind ?_ (fun _ => ?_)
    · intro y0 y1 y2 y3 y4 y5 y6
      unfold regletlaw01_PhysCovers.l1
      repeat' first
      | (with_reducible exact ih0 _ _ _ _ _ _ _)
      | (with_reducible exact ih1 _ _ _ _ _ _ _)
      | (with_reducible exact ih2 _ _ _ _ _ _ _)
      | (with_reducible exact ih3 _ _ _ _ _ _ _ _)
      | (with_reducible exact ih4 _ _ _ _ _ _ _ _)
      | (with_reducible exact ih5 _ _ _ _ _ _ _ _ _)
      | (with_reducible exact LeO.refl _)
      | (with_reducible exact LeO.none _)
      | (with_reducible refine LeO.ite ?_ ?_)
      | (with_reducible refine LeO.bind ?_ (fun _ => ?_))
      | exact ih0 _ _ _ _ _ _ _
      | exact ih1 _ _ _ _ _ _ _
      | exact ih2 _ _ _ _ _ _ _
      | exact ih3 _ _ _ _ _ _ _ _
      | exact ih4 _ _ _ _ _ _ _ _
      | exact ih5 _ _ _ _ _ _ _ _ _
      | exact LeO.none _
      | refine LeO.ite ?_ ?_
      | refine LeO.bind ?_ (fun _ => ?_)
    · intro y0 y1 y2 y3 y4 y5 y6 y7
      unfold regletlaw01_PhysCovers.j3
      repeat' first
      | (with_reducible exact ih0 _ _ _ _ _ _ _)
      | (with_reducible exact ih1 _ _ _ _ _ _ _)
      | (with_reducible exact ih2 _ _ _ _ _ _ _)
      | (with_reducible exact ih3 _ _ _ _ _ _ _ _)
      | (with_reducible exact ih4 _ _ _ _ _ _ _ _)
      | (with_reducible exact ih5 _ _ _ _ _ _ _ _ _)
      | (with_reducible exact LeO.refl _)
      | (with_reducible exact LeO.none _)
      | (with_reducible refine LeO.ite ?_ ?_)
      | (with_reducible refine LeO.bind ?_ (fun _ => ?_))
      | exact ih0 _ _ _ _ _ _ _
      | exact ih1 _ _ _ _ _ _ _
      | exact ih2 _ _ _ _ _ _ _
      | exact ih3 _ _ _ _ _ _ _ _
      | exact ih4 _ _ _ _ _ _ _ _
      | exact ih5 _ _ _ _ _ _ _ _ _
      | exact LeO.none _
      | refine LeO.ite ?_ ?_
      | refine LeO.bind ?_ (fun _ => ?_)
    · intro y0 y1 y2 y3 y4 y5 y6 y7
      unfold regletlaw01_PhysCovers.j4
      repeat' first
      | (with_reducible exact ih0 _ _ _ _ _ _ _)
      | (with_reducible exact ih1 _ _ _ _ _ _ _)
      | (with_reducible exact ih2 _ _ _ _ _ _ _)
      | (with_reducible exact ih3 _ _ _ _ _ _ _ _)
      | (with_reducible exact ih4 _ _ _ _ _ _ _ _)
      | (with_reducible exact ih5 _ _ _ _ _ _ _ _ _)
      | (with_reducible exact LeO.refl _)
      | (with_reducible exact LeO.none _)
      | (with_reducible refine LeO.ite ?_ ?_)
      | (with_reducible refine LeO.bind ?_ (fun _ => ?_))
      | exact ih0 _ _ _ _ _ _ _
      | exact ih1 _ _ _ _ _ _ _
      | exact ih2 _ _ _ _ _ _ _
      | exact ih3 _ _ _ _ _ _ _ _
      | exact ih4 _ _ _ _ _ _ _ _
      | exact ih5 _ _ _ _ _ _ _ _ _
      | exact LeO.none _
      | refine LeO.ite ?_ ?_
      | refine LeO.bind ?_ (fun _ => ?_)
    · intro y0 y1 y2 y3 y4 y5 y6 y7 y8
      unfold regletlaw01_PhysCovers.j5
      repeat' first
      | (with_reducible exact ih0 _ _ _ _ _ _ _)
      | (with_reducible exact ih1 _ _ _ _ _ _ _)
      | (with_reducible exact ih2 _ _ _ _ _ _ _)
      | (with_reducible exact ih3 _ _ _ _ _ _ _ _)
      | (with_reducible exact ih4 _ _ _ _ _ _ _ _)
      | (with_reducible exact ih5 _ _ _ _ _ _ _ _ _)
      | (with_reducible exact LeO.refl _)
      | (with_reducible exact LeO.none _)
      | (with_reducible refine LeO.ite ?_ ?_)
      | (with_reducible refine LeO.bind ?_ (fun _ => ?_))
      | exact ih0 _ _ _ _ _ _ _
      | exact ih1 _ _ _ _ _ _ _
      | exact ih2 _ _ _ _ _ _ _
      | exact ih3 _ _ _ _ _ _ _ _
      | exact ih4 _ _ _ _ _ _ _ _
      | exact ih5 _ _ _ _ _ _ _ _ _
      | exact LeO.none _
      | refine LeO.ite ?_ ?_
      | refine LeO.bind ?_ (fun _ => ?_)
theorem regletlaw01_PhysCovers.mono : ∀ a0 k, LeO (regletlaw01_PhysCovers.f k a0) (regletlaw01_PhysCovers.f (k + 1) a0) := by
  intro a0 k
  obtain ⟨ih0, ih1, ih2, ih3, ih4, ih5⟩ := regletlaw01_PhysCovers.mono_l k
  unfold regletlaw01_PhysCovers.f
  repeat' first
      | (with_reducible exact ih0 _ _ _ _ _ _ _)
      | (with_reducible exact ih1 _ _ _ _ _ _ _)
      | (with_reducible exact ih2 _ _ _ _ _ _ _)
      | (with_reducible exact ih3 _ _ _ _ _ _ _ _)
      | (with_reducible exact ih4 _ _ _ _ _ _ _ _)
      | (with_reducible exact ih5 _ _ _ _ _ _ _ _ _)
      | (with_reducible exact LeO.refl _)
      | (with_reducible exact LeO.none _)
      | (with_reducible refine LeO.ite ?_ ?_)
      | (with_reducible refine LeO.bind ?_ (fun _ => ?_))
      | exact ih0 _ _ _ _ _ _ _
      | exact ih1 _ _ _ _ _ _ _
      | exact ih2 _ _ _ _ _ _ _
      | exact ih3 _ _ _ _ _ _ _ _
      | exact ih4 _ _ _ _ _ _ _ _
      | exact ih5 _ _ _ _ _ _ _ _ _
      | exact LeO.none _
      | refine LeO.ite ?_ ?_
      | refine LeO.bind ?_ (fun _ => ?_)
set_option maxHeartbeats 8000000 in
set_option maxRecDepth 100000 in
theorem regletlaw01_PhysCovers.calls (k : Nat) (a0 : ByteArray) (r : Bool) (w : World) (h : regletlaw01_PhysCovers.f k a0 = some r) :
    Calls Try.prog 10 #[.string a0] w fun e w' => e = .returned (.bool r) ∧ Below w.heap.size w w' := by
  have HB := Aside0.mk (Below.refl w.heap.size w)
  have H : ((regletlaw01_alive.f).bind fun t418 => ((phys_Chars.f a0).bind fun bt419 => ((phys_Splices.f a0).bind fun bt423 => (if bt419.2 = 0 then (regletlaw01_PhysCovers.j0 k a0 t418 bt419.1 bt419.2 bt423.1 bt423.2 (!t418)) else (regletlaw01_PhysCovers.j0 k a0 t418 bt419.1 bt419.2 bt423.1 bt423.2 true))))) = some r := h
  clear h
  replace H := Option.bind_eq_some_iff.mp H
  obtain ⟨t418, A20, H⟩ := H
  replace H : ((phys_Chars.f a0).bind fun bt419 => ((phys_Splices.f a0).bind fun bt423 => (if bt419.2 = 0 then (regletlaw01_PhysCovers.j0 k a0 t418 bt419.1 bt419.2 bt423.1 bt423.2 (!t418)) else (regletlaw01_PhysCovers.j0 k a0 t418 bt419.1 bt419.2 bt423.1 bt423.2 true)))) = some r := H
  have A2 := Aside0.mk A20
  clear A20
  replace H := Option.bind_eq_some_iff.mp H
  obtain ⟨⟨t419, t420⟩, A30, H⟩ := H
  replace H : ((phys_Splices.f a0).bind fun bt423 => (if t420 = 0 then (regletlaw01_PhysCovers.j0 k a0 t418 t419 t420 bt423.1 bt423.2 (!t418)) else (regletlaw01_PhysCovers.j0 k a0 t418 t419 t420 bt423.1 bt423.2 true))) = some r := H
  have A3 := Aside0.mk A30
  clear A30
  replace H := Option.bind_eq_some_iff.mp H
  obtain ⟨⟨t423, t424⟩, A40, H⟩ := H
  replace H : (if t420 = 0 then (regletlaw01_PhysCovers.j0 k a0 t418 t419 t420 t423 t424 (!t418)) else (regletlaw01_PhysCovers.j0 k a0 t418 t419 t420 t423 t424 true)) = some r := H
  have A4 := Aside0.mk A40
  clear A40
  have HC5 := Aside0.mk H
  clear H
  go_enter Try.func10, Try.ntmps10
  go_upto_region 4 with (first | (go_at_call 40; (with_reducible refine (regletlaw01_alive.calls  t418 _ A2.out).mono ?_); rintro e w6 ⟨rfl, hb⟩; have n0_ := Aside0.mk (below_step (by repeat (first | (with_reducible first | exact HB.out | apply below_alloc | apply pw_below_drewN | apply below_drew1) | exact HB.out)) hb); clear HB; have HB := n0_; clear n0_; (try clear hb); (try clear hb2); (try clear hk); (try clear hi)) | (go_at_call 41; (with_reducible refine (phys_Chars.calls a0 t419 t420 _ A3.out).mono ?_); rintro e w7 ⟨v421, rfl, ho0, hb⟩; have n0_ := Aside0.mk (Kd.R_lower ho0 (below_size (by repeat (first | (with_reducible first | exact HB.out | apply below_alloc | apply pw_below_drewN | apply below_drew1) | exact HB.out)))); have n1_ := Aside0.mk (below_step (by repeat (first | (with_reducible first | exact HB.out | apply below_alloc | apply pw_below_drewN | apply below_drew1) | exact HB.out)) hb); clear HB; have HO422 := n0_; have HB := n1_; clear n0_ n1_; (try clear hb); (try clear hb2); (try clear hk); (try clear hi); (try clear ho0)) | (go_at_call 45; (with_reducible refine (phys_Splices.calls a0 t423 t424 _ A4.out).mono ?_); rintro e w8 ⟨v425, rfl, ho0, hb⟩; have n0_ := Aside0.mk (Kd.R_below (by (with_reducible repeat (first | apply Kd.R_alloc | apply Kd.R_drewN | apply Kd.R_drew)); exact HO422.out) hb); have n1_ := Aside0.mk (Kd.R_lower ho0 (below_size (by repeat (first | (with_reducible first | exact HB.out | apply below_alloc | apply pw_below_drewN | apply below_drew1) | exact HB.out)))); have n2_ := Aside0.mk (below_step (by repeat (first | (with_reducible first | exact HB.out | apply below_alloc | apply pw_below_drewN | apply below_drew1) | exact HB.out)) hb); clear HO422; clear HB; have HO422 := n0_; have HO426 := n1_; have HB := n2_; clear n0_ n1_ n2_; (try clear hb); (try clear hb2); (try clear hk); (try clear hi); (try clear ho0)))
  repeat (go_quiet (first | (go_at_call 40; (with_reducible refine (regletlaw01_alive.calls  t418 _ A2.out).mono ?_); rintro e w6 ⟨rfl, hb⟩; have n0_ := Aside0.mk (below_step (by repeat (first | (with_reducible first | exact HB.out | apply below_alloc | apply pw_below_drewN | apply below_drew1) | exact HB.out)) hb); clear HB; have HB := n0_; clear n0_; (try clear hb); (try clear hb2); (try clear hk); (try clear hi)) | (go_at_call 41; (with_reducible refine (phys_Chars.calls a0 t419 t420 _ A3.out).mono ?_); rintro e w7 ⟨v421, rfl, ho0, hb⟩; have n0_ := Aside0.mk (Kd.R_lower ho0 (below_size (by repeat (first | (with_reducible first | exact HB.out | apply below_alloc | apply pw_below_drewN | apply below_drew1) | exact HB.out)))); have n1_ := Aside0.mk (below_step (by repeat (first | (with_reducible first | exact HB.out | apply below_alloc | apply pw_below_drewN | apply below_drew1) | exact HB.out)) hb); clear HB; have HO422 := n0_; have HB := n1_; clear n0_ n1_; (try clear hb); (try clear hb2); (try clear hk); (try clear hi); (try clear ho0)) | (go_at_call 45; (with_reducible refine (phys_Splices.calls a0 t423 t424 _ A4.out).mono ?_); rintro e w8 ⟨v425, rfl, ho0, hb⟩; have n0_ := Aside0.mk (Kd.R_below (by (with_reducible repeat (first | apply Kd.R_alloc | apply Kd.R_drewN | apply Kd.R_drew)); exact HO422.out) hb); have n1_ := Aside0.mk (Kd.R_lower ho0 (below_size (by repeat (first | (with_reducible first | exact HB.out | apply below_alloc | apply pw_below_drewN | apply below_drew1) | exact HB.out)))); have n2_ := Aside0.mk (below_step (by repeat (first | (with_reducible first | exact HB.out | apply below_alloc | apply pw_below_drewN | apply below_drew1) | exact HB.out)) hb); clear HO422; clear HB; have HO422 := n0_; have HO426 := n1_; have HB := n2_; clear n0_ n1_ n2_; (try clear hb); (try clear hb2); (try clear hk); (try clear hi); (try clear ho0))); go_upto_region 4 with (first | (go_at_call 40; (with_reducible refine (regletlaw01_alive.calls  t418 _ A2.out).mono ?_); rintro e w6 ⟨rfl, hb⟩; have n0_ := Aside0.mk (below_step (by repeat (first | (with_reducible first | exact HB.out | apply below_alloc | apply pw_below_drewN | apply below_drew1) | exact HB.out)) hb); clear HB; have HB := n0_; clear n0_; (try clear hb); (try clear hb2); (try clear hk); (try clear hi)) | (go_at_call 41; (with_reducible refine (phys_Chars.calls a0 t419 t420 _ A3.out).mono ?_); rintro e w7 ⟨v421, rfl, ho0, hb⟩; have n0_ := Aside0.mk (Kd.R_lower ho0 (below_size (by repeat (first | (with_reducible first | exact HB.out | apply below_alloc | apply pw_below_drewN | apply below_drew1) | exact HB.out)))); have n1_ := Aside0.mk (below_step (by repeat (first | (with_reducible first | exact HB.out | apply below_alloc | apply pw_below_drewN | apply below_drew1) | exact HB.out)) hb); clear HB; have HO422 := n0_; have HB := n1_; clear n0_ n1_; (try clear hb); (try clear hb2); (try clear hk); (try clear hi); (try clear ho0)) | (go_at_call 45; (with_reducible refine (phys_Splices.calls a0 t423 t424 _ A4.out).mono ?_); rintro e w8 ⟨v425, rfl, ho0, hb⟩; have n0_ := Aside0.mk (Kd.R_below (by (with_reducible repeat (first | apply Kd.R_alloc | apply Kd.R_drewN | apply Kd.R_drew)); exact HO422.out) hb); have n1_ := Aside0.mk (Kd.R_lower ho0 (below_size (by repeat (first | (with_reducible first | exact HB.out | apply below_alloc | apply pw_below_drewN | apply below_drew1) | exact HB.out)))); have n2_ := Aside0.mk (below_step (by repeat (first | (with_reducible first | exact HB.out | apply below_alloc | apply pw_below_drewN | apply below_drew1) | exact HB.out)) hb); clear HO422; clear HB; have HO422 := n0_; have HO426 := n1_; have HB := n2_; clear n0_ n1_ n2_; (try clear hb); (try clear hb2); (try clear hk); (try clear hi); (try clear ho0))))
  (try simp only [Act.put, List.setIfInBounds_toArray, List.set_cons_zero, List.set_cons_succ])
  go_cut [31] (fun v31 wc => ∃ (kq : Nat) (x31_4 : Bool), v31 = .bool x31_4 ∧ Aside0 (regletlaw01_PhysCovers.j0 kq a0 t418 t419 t420 t423 t424 x31_4 = some r) ∧ Aside0 (kq ≤ k) ∧ Aside0 (Kd.R k55 55 wc w.heap.size (fun _ => True) v421 t419) ∧ Aside0 (Kd.R k70 70 wc w.heap.size (fun _ => True) v425 t423) ∧ Aside0 (Below w.heap.size w wc))
  case first =>
    have H := HC5.out
    clear HC5
    by_cases c9 : t420 = 0
    · rw [if_pos c9] at H
      have c9b0 : (t420 == 0) = true := beq_iff_eq.mpr c9
      have c9b1 : (t420 != 0) = false := bne_eq_false_iff_eq.mpr c9
      clear c9
      (first | rw [c9b0] | (simp only [i64_w, i32_w]; rw [c9b0]) | skip)
      have H' := Aside0.mk H
      clear H
      go_wp2
      repeat (go_quiet (fail); try go_wp2)
      go_meet
      case rel => exact ⟨_, (!t418), (by first | rfl | (simp; done) | (simp [*]; done)), H', ⟨by first | omega | exact Nat.le_refl _⟩, ⟨by (with_reducible repeat (first | apply Kd.R_alloc | apply Kd.R_drewN | apply Kd.R_drew)); exact HO422.out⟩, ⟨by (with_reducible repeat (first | apply Kd.R_alloc | apply Kd.R_drewN | apply Kd.R_drew)); exact HO426.out⟩, ⟨by repeat (first | (with_reducible first | exact HB.out | apply below_alloc | apply pw_below_drewN | apply below_drew1) | exact HB.out)⟩⟩
    · rw [if_neg c9] at H
      have c9b0 : (t420 == 0) = false := beq_eq_false_iff_ne.mpr c9
      have c9b1 : (t420 != 0) = true := bne_iff_ne.mpr c9
      (first | rw [c9b0] | (simp only [i64_w, i32_w]; rw [c9b0]) | skip)
      have H' := Aside0.mk H
      clear H
      go_wp2
      repeat (go_quiet (fail); try go_wp2)
      go_meet
      case rel => exact ⟨_, (true), (by first | rfl | (simp; done) | (simp [*]; done)), H', ⟨by first | omega | exact Nat.le_refl _⟩, ⟨by (with_reducible repeat (first | apply Kd.R_alloc | apply Kd.R_drewN | apply Kd.R_drew)); exact HO422.out⟩, ⟨by (with_reducible repeat (first | apply Kd.R_alloc | apply Kd.R_drewN | apply Kd.R_drew)); exact HO426.out⟩, ⟨by repeat (first | (with_reducible first | exact HB.out | apply below_alloc | apply pw_below_drewN | apply below_drew1) | exact HB.out)⟩⟩
  case rest =>
    clear HC5
    try clear c1
    try clear p2
    try clear c9
    try clear c9b0
    try clear c9b1
    obtain ⟨kq, x31_4, rfl, HA, HJ4, HO_4, HO_6, HB⟩ := hcut
    cases kq with
    | zero => exact absurd HA.out (by simp [regletlaw01_PhysCovers.j0])
    | succ kj4 =>
      have H := HA.out
      clear HA
      simp only [regletlaw01_PhysCovers.j0] at H
      by_cases c10 : x31_4 = true
      · subst c10
        have H1 : (if t418 = true then (if t420 = t424 then (if (t419.length : Int) = 0 then (some ((t423.length : Int) == 0)) else (some false)) else (some false)) else (some false)) = some r := by rw [if_pos rfl] at H; exact H
        clear H
        have H := H1
        clear H1
        by_cases c11 : t418 = true
        · subst c11
          have H1 : (if t420 = t424 then (if (t419.length : Int) = 0 then (some ((t423.length : Int) == 0)) else (some false)) else (some false)) = some r := by rw [if_pos rfl] at H; exact H
          clear H
          have H := H1
          clear H1
          by_cases c12 : t420 = t424
          · rw [if_pos c12] at H
            have c12b0 : (t420 == t424) = true := beq_iff_eq.mpr c12
            have c12b1 : (t420 != t424) = false := bne_eq_false_iff_eq.mpr c12
            clear c12
            by_cases c13 : (t419.length : Int) = 0
            · rw [if_pos c13] at H
              have c13b0 : ((t419.length : Int) == 0) = true := beq_iff_eq.mpr c13
              have c13b1 : ((t419.length : Int) != 0) = false := bne_eq_false_iff_eq.mpr c13
              clear c13
              obtain rfl := Option.some.inj H
              obtain ⟨Ao14, co14, eo14⟩ := Kd.R_slice HO_4.out
              subst eo14
              obtain ⟨Ao15, co15, eo15⟩ := Kd.R_slice HO_6.out
              subst eo15
              go_wp2
              repeat (go_quiet (fail); try go_wp2)
              go_ret
              exact ⟨by first | rfl | (simp [errW_none, errW_some] <;> rfl) | (simp [*, errW_none, errW_some] <;> rfl), by repeat (first | (with_reducible first | exact HB.out | apply below_alloc | apply pw_below_drewN | apply below_drew1) | exact HB.out)⟩
            · rw [if_neg c13] at H
              have c13b0 : ((t419.length : Int) == 0) = false := beq_eq_false_iff_ne.mpr c13
              have c13b1 : ((t419.length : Int) != 0) = true := bne_iff_ne.mpr c13
              have c13b2 : ¬ (t419 = []) := fun h_ => c13 (by rw [h_]; rfl)
              obtain rfl := Option.some.inj H
              obtain ⟨Ao16, co16, eo16⟩ := Kd.R_slice HO_4.out
              subst eo16
              go_wp2
              repeat (go_quiet (fail); try go_wp2)
              go_ret
              exact ⟨by first | rfl | (simp [errW_none, errW_some] <;> rfl) | (simp [*, errW_none, errW_some] <;> rfl), by repeat (first | (with_reducible first | exact HB.out | apply below_alloc | apply pw_below_drewN | apply below_drew1) | exact HB.out)⟩
          · rw [if_neg c12] at H
            have c12b0 : (t420 == t424) = false := beq_eq_false_iff_ne.mpr c12
            have c12b1 : (t420 != t424) = true := bne_iff_ne.mpr c12
            obtain rfl := Option.some.inj H
            go_wp2
            repeat (go_quiet (fail); try go_wp2)
            go_ret
            exact ⟨by first | rfl | (simp [errW_none, errW_some] <;> rfl) | (simp [*, errW_none, errW_some] <;> rfl), by repeat (first | (with_reducible first | exact HB.out | apply below_alloc | apply pw_below_drewN | apply below_drew1) | exact HB.out)⟩
        · replace c11 := Bool.eq_false_iff.mpr c11
          subst c11
          have H1 : (some false) = some r := by rw [if_neg (show ¬ (false = true) by decide)] at H; exact H
          clear H
          have H := H1
          clear H1
          obtain rfl := Option.some.inj H
          go_wp2
          repeat (go_quiet (fail); try go_wp2)
          go_ret
          exact ⟨by first | rfl | (simp [errW_none, errW_some] <;> rfl) | (simp [*, errW_none, errW_some] <;> rfl), by repeat (first | (with_reducible first | exact HB.out | apply below_alloc | apply pw_below_drewN | apply below_drew1) | exact HB.out)⟩
      · replace c10 := Bool.eq_false_iff.mpr c10
        subst c10
        have H1 : (regletlaw01_PhysCovers.l0 kj4 a0 t419 t423 t424 0 0 0) = some r := by rw [if_neg (show ¬ (false = true) by decide)] at H; exact H
        clear H
        have H := H1
        clear H1
        have H' := Aside0.mk H
        clear H
        go_wp2
        repeat (go_quiet (fail); try go_wp2)
        go_loopg [8, 9, 10] kj4 (fun kq v8 v9 v10 w' => ∃ (x8_2 : Int) (x9_2 : Int) (x10_2 : Int), v8 = .int .i64 x8_2 ∧ v9 = .int .i64 x9_2 ∧ v10 = .int .i64 x10_2 ∧ Aside0 (regletlaw01_PhysCovers.l0 kq a0 t419 t423 t424 x8_2 x9_2 x10_2 = some r) ∧ Aside0 (kq ≤ kj4) ∧ Aside0 (Kd.R k55 55 w' w.heap.size (fun _ => True) v421 t419) ∧ Aside0 (Kd.R k70 70 w' w.heap.size (fun _ => True) v425 t423) ∧ Aside0 (Below w.heap.size w w'))
        case atStart => exact ⟨(0), (0), (0), (by first | rfl | (simp; done) | (simp [*]; done)), (by first | rfl | (simp; done) | (simp [*]; done)), (by first | rfl | (simp; done) | (simp [*]; done)), H', ⟨Nat.le_refl _⟩, ⟨by (with_reducible repeat (first | apply Kd.R_alloc | apply Kd.R_drewN | apply Kd.R_drew)); exact HO_4.out⟩, ⟨by (with_reducible repeat (first | apply Kd.R_alloc | apply Kd.R_drewN | apply Kd.R_drew)); exact HO_6.out⟩, ⟨by repeat (first | (with_reducible first | exact HB.out | apply below_alloc | apply pw_below_drewN | apply below_drew1) | exact HB.out)⟩⟩
        case round =>
          clear H'
          try clear c1
          try clear p2
          try clear c9
          try clear c9b0
          try clear c9b1
          try clear c10
          try clear c11
          try clear c12
          try clear c12b0
          try clear c12b1
          try clear c13
          try clear c13b0
          try clear c13b1
          try clear c13b2
          try clear p2
          obtain ⟨x8_2, x9_2, x10_2, rfl, rfl, rfl, HA, HK2, HO_4, HO_6, HB⟩ := hrel
          cases gk with
          | zero => exact absurd HA.out (by simp [regletlaw01_PhysCovers.l0])
          | succ k2 =>
            have H := HA.out
            clear HA
            simp only [regletlaw01_PhysCovers.l0] at H
            by_cases c17 : x10_2 ≤ (t419.length : Int)
            · rw [if_pos c17] at H
              have c17b0 : decide (x10_2 ≤ (t419.length : Int)) = true := decide_eq_true c17
              clear c17
              have H' := Aside0.mk H
              clear H
              obtain ⟨Ao18, co18, eo18⟩ := Kd.R_slice HO_4.out
              subst eo18
              go_wp2
              repeat (go_quiet (fail); try go_wp2)
              go_loopg [8, 9] k2 (fun kq v8 v9 w' => ∃ (x8_3 : Int) (x9_3 : Int), v8 = .int .i64 x8_3 ∧ v9 = .int .i64 x9_3 ∧ Aside0 (regletlaw01_PhysCovers.l1 kq a0 t419 t423 t424 x8_3 x9_3 x10_2 = some r) ∧ Aside0 (kq ≤ k2) ∧ Aside0 (Kd.R k55 55 w' w.heap.size (fun _ => True) (.slice Ao18 t419.length co18) t419) ∧ Aside0 (Kd.R k70 70 w' w.heap.size (fun _ => True) v425 t423) ∧ Aside0 (Below w.heap.size w w'))
              case atStart => exact ⟨(x8_2), (x9_2), (by first | rfl | (simp; done) | (simp [*]; done)), (by first | rfl | (simp; done) | (simp [*]; done)), H', ⟨Nat.le_refl _⟩, ⟨by (with_reducible repeat (first | apply Kd.R_alloc | apply Kd.R_drewN | apply Kd.R_drew)); exact HO_4.out⟩, ⟨by (with_reducible repeat (first | apply Kd.R_alloc | apply Kd.R_drewN | apply Kd.R_drew)); exact HO_6.out⟩, ⟨by repeat (first | (with_reducible first | exact HB.out | apply below_alloc | apply pw_below_drewN | apply below_drew1) | exact HB.out)⟩⟩
              case round =>
                clear H'
                try clear c1
                try clear p2
                try clear c9
                try clear c9b0
                try clear c9b1
                try clear c10
                try clear c11
                try clear c12
                try clear c12b0
                try clear c12b1
                try clear c13
                try clear c13b0
                try clear c13b1
                try clear c13b2
                try clear c17
                try clear c17b0
                try clear p2
                obtain ⟨x8_3, x9_3, rfl, rfl, HA, HK3, HO_4, HO_6, HB⟩ := hrel
                cases gk with
                | zero => exact absurd HA.out (by simp [regletlaw01_PhysCovers.l1])
                | succ k3 =>
                  have H := HA.out
                  clear HA
                  simp only [regletlaw01_PhysCovers.l1] at H
                  have HC19 := Aside0.mk H
                  clear H
                  go_upto_region 11 with (fail)
                  repeat (go_quiet (fail); go_upto_region 11 with (fail))
                  go_cut [66] (fun v66 wc => ∃ (kq : Nat) (x66_18 : Bool), v66 = .bool x66_18 ∧ Aside0 (regletlaw01_PhysCovers.j3 kq a0 t419 t423 t424 x8_3 x9_3 x10_2 x66_18 = some r) ∧ Aside0 (kq ≤ k3) ∧ Aside0 (Kd.R k55 55 wc w.heap.size (fun _ => True) (.slice Ao18 t419.length co18) t419) ∧ Aside0 (Kd.R k70 70 wc w.heap.size (fun _ => True) v425 t423) ∧ Aside0 (Below w.heap.size w wc))
                  case first =>
                    have H := HC19.out
                    clear HC19
                    by_cases c20 : x9_3 < (t423.length : Int)
                    · rw [if_pos c20] at H
                      have c20b0 : decide (x9_3 < (t423.length : Int)) = true := decide_eq_true c20
                      clear c20
                      (first | rw [c20b0] | (simp only [i64_w, i32_w]; rw [c20b0]) | skip)
                      by_cases c21 : 0 ≤ x9_3
                      · rw [if_pos c21] at H
                        have c21b0 : decide (0 ≤ x9_3) = true := decide_eq_true c21
                        clear c21
                        have H' := Aside0.mk H
                        clear H
                        obtain ⟨Ao22, co22, eo22⟩ := Kd.R_slice HO_6.out
                        subst eo22
                        have p427 : 0 ≤ (x9_3 : Int) := of_decide_eq_true (by first | (with_reducible assumption) | assumption)
                        have q427 : x9_3 < (t423.length : Int) := of_decide_eq_true (by first | (with_reducible assumption) | assumption)
                        obtain ⟨ad427, e427, hx427_0, hx427_1⟩ := at_T70 (Kd.R_reads' HO_6.out).2.2 x9_3 p427 q427
                        cases e427
                        replace p427 := eq_true p427
                        replace q427 := eq_true q427
                        go_wp2
                        repeat (go_quiet (fail); try go_wp2)
                        go_meet
                        case rel => exact ⟨_, ((((rd_T70 t423 x9_3).f0) == x8_3)), (by first | rfl | (simp; done) | (simp [*]; done)), H', ⟨by have := HJ4.out; have := HK2.out; have := HK3.out; first | omega | exact Nat.le_refl _⟩, ⟨by (with_reducible repeat (first | apply Kd.R_alloc | apply Kd.R_drewN | apply Kd.R_drew)); exact HO_4.out⟩, ⟨by (with_reducible repeat (first | apply Kd.R_alloc | apply Kd.R_drewN | apply Kd.R_drew)); exact HO_6.out⟩, ⟨by repeat (first | (with_reducible first | exact HB.out | apply below_alloc | apply pw_below_drewN | apply below_drew1) | exact HB.out)⟩⟩
                      · rw [if_neg c21] at H
                        exact absurd H (by simp)
                    · rw [if_neg c20] at H
                      have c20b0 : decide (x9_3 < (t423.length : Int)) = false := decide_eq_false c20
                      clear c20
                      (first | rw [c20b0] | (simp only [i64_w, i32_w]; rw [c20b0]) | skip)
                      have H' := Aside0.mk H
                      clear H
                      obtain ⟨Ao23, co23, eo23⟩ := Kd.R_slice HO_6.out
                      subst eo23
                      go_wp2
                      repeat (go_quiet (fail); try go_wp2)
                      go_meet
                      case rel => exact ⟨_, (false), (by first | rfl | (simp; done) | (simp [*]; done)), H', ⟨by have := HJ4.out; have := HK2.out; have := HK3.out; first | omega | exact Nat.le_refl _⟩, ⟨by (with_reducible repeat (first | apply Kd.R_alloc | apply Kd.R_drewN | apply Kd.R_drew)); exact HO_4.out⟩, ⟨by (with_reducible repeat (first | apply Kd.R_alloc | apply Kd.R_drewN | apply Kd.R_drew)); exact HO_6.out⟩, ⟨by repeat (first | (with_reducible first | exact HB.out | apply below_alloc | apply pw_below_drewN | apply below_drew1) | exact HB.out)⟩⟩
                  case rest =>
                    clear HC19
                    try clear c1
                    try clear c2
                    try clear p2
                    try clear p4
                    try clear q4
                    try clear hx4
                    try clear c9
                    try clear c9b0
                    try clear c9b1
                    try clear c10
                    try clear c11
                    try clear c12
                    try clear c12b0
                    try clear c12b1
                    try clear c13
                    try clear c13b0
                    try clear c13b1
                    try clear c13b2
                    try clear c17
                    try clear c17b0
                    try clear c20
                    try clear c20b0
                    try clear c21
                    try clear c21b0
                    try clear hx427_0
                    try clear hx427_1
                    try clear p2
                    try clear p427
                    try clear q427
                    obtain ⟨kq, x66_18, rfl, HA, HJ18, HO_4, HO_6, HB⟩ := hcut
                    cases kq with
                    | zero => exact absurd HA.out (by simp [regletlaw01_PhysCovers.j3])
                    | succ kj18 =>
                      have H := HA.out
                      clear HA
                      simp only [regletlaw01_PhysCovers.j3] at H
                      by_cases c24 : x66_18 = true
                      · subst c24
                        have H1 : (if 0 ≤ x9_3 then (if x9_3 < (t423.length : Int) then (if (wrap64 (((rd_T70 t423 x9_3).f1) - ((rd_T70 t423 x9_3).f0))) = 2 then (if 0 ≤ (wrap64 (((rd_T70 t423 x9_3).f1) - 1)) then (if (wrap64 (((rd_T70 t423 x9_3).f1) - 1)) < (a0.size : Int) then (if (bt a0 (wrap64 (((rd_T70 t423 x9_3).f1) - 1))) = 10 then (regletlaw01_PhysCovers.l1 kj18 a0 t419 t423 t424 ((rd_T70 t423 x9_3).f1) (wrap64 (x9_3 + 1)) x10_2) else (some false)) else (none)) else (none)) else (if (wrap64 (((rd_T70 t423 x9_3).f1) - ((rd_T70 t423 x9_3).f0))) = 4 then (if 0 ≤ (wrap64 (((rd_T70 t423 x9_3).f1) - 1)) then (if (wrap64 (((rd_T70 t423 x9_3).f1) - 1)) < (a0.size : Int) then (if (bt a0 (wrap64 (((rd_T70 t423 x9_3).f1) - 1))) = 10 then (regletlaw01_PhysCovers.l1 kj18 a0 t419 t423 t424 ((rd_T70 t423 x9_3).f1) (wrap64 (x9_3 + 1)) x10_2) else (some false)) else (none)) else (none)) else (some false))) else (none)) else (none)) = some r := by rw [if_pos rfl] at H; exact H
                        clear H
                        have H := H1
                        clear H1
                        by_cases c25 : 0 ≤ x9_3
                        · rw [if_pos c25] at H
                          have c25b0 : decide (0 ≤ x9_3) = true := decide_eq_true c25
                          clear c25
                          by_cases c26 : x9_3 < (t423.length : Int)
                          · rw [if_pos c26] at H
                            have c26b0 : decide (x9_3 < (t423.length : Int)) = true := decide_eq_true c26
                            clear c26
                            by_cases c27 : (wrap64 (((rd_T70 t423 x9_3).f1) - ((rd_T70 t423 x9_3).f0))) = 2
                            · rw [if_pos c27] at H
                              have c27b0 : ((wrap64 (((rd_T70 t423 x9_3).f1) - ((rd_T70 t423 x9_3).f0))) == 2) = true := beq_iff_eq.mpr c27
                              have c27b1 : ((wrap64 (((rd_T70 t423 x9_3).f1) - ((rd_T70 t423 x9_3).f0))) != 2) = false := bne_eq_false_iff_eq.mpr c27
                              clear c27
                              obtain ⟨ji28, hji28⟩ : ∃ j_ : Int, (wrap64 (((rd_T70 t423 x9_3).f1) - 1)) = j_ := ⟨_, rfl⟩
                              replace H : (if 0 ≤ (ji28) then (if (ji28) < (a0.size : Int) then (if (bt a0 (ji28)) = 10 then (regletlaw01_PhysCovers.l1 kj18 a0 t419 t423 t424 ((rd_T70 t423 x9_3).f1) (wrap64 (x9_3 + 1)) x10_2) else (some false)) else (none)) else (none)) = some r := by first | (rw [hji28] at H; exact H) | (simp only [hji28] at H ⊢; exact H)
                              have hji28w : (IntKind.i64.wrap (((rd_T70 t423 x9_3).f1) - 1)) = ji28 := (i64_w _).trans hji28
                              by_cases c29 : 0 ≤ (ji28)
                              · rw [if_pos c29] at H
                                have c29b0 : decide (0 ≤ (ji28)) = true := decide_eq_true c29
                                clear c29
                                by_cases c30 : (ji28) < (a0.size : Int)
                                · rw [if_pos c30] at H
                                  have c30b0 : decide ((ji28) < (a0.size : Int)) = true := decide_eq_true c30
                                  clear c30
                                  by_cases c32 : (bt a0 (ji28)) = 10
                                  · rw [if_pos c32] at H
                                    have c32b0 : ((bt a0 (ji28)) == 10) = true := beq_iff_eq.mpr c32
                                    have c32b1 : ((bt a0 (ji28)) != 10) = false := bne_eq_false_iff_eq.mpr c32
                                    clear c32
                                    have H' := Aside0.mk H
                                    clear H
                                    obtain ⟨Ao33, co33, eo33⟩ := Kd.R_slice HO_6.out
                                    subst eo33
                                    have p428 : 0 ≤ (x9_3 : Int) := of_decide_eq_true (by first | (with_reducible assumption) | assumption)
                                    have q428 : x9_3 < (t423.length : Int) := of_decide_eq_true (by first | (with_reducible assumption) | assumption)
                                    obtain ⟨ad428, e428, hx428_0, hx428_1⟩ := at_T70 (Kd.R_reads' HO_6.out).2.2 x9_3 p428 q428
                                    cases e428
                                    replace p428 := eq_true p428
                                    replace q428 := eq_true q428
                                    have p429 : 0 ≤ (x9_3 : Int) := of_decide_eq_true (by first | (with_reducible assumption) | assumption)
                                    have q429 : x9_3 < (t423.length : Int) := of_decide_eq_true (by first | (with_reducible assumption) | assumption)
                                    obtain ⟨ad429, e429, hx429_0, hx429_1⟩ := at_T70 (Kd.R_reads' HO_6.out).2.2 x9_3 p429 q429
                                    obtain rfl : ad428 = ad429 := (by injection e429)
                                    replace p429 := eq_true p429
                                    replace q429 := eq_true q429
                                    have p430 : 0 ≤ (x9_3 : Int) := of_decide_eq_true (by first | (with_reducible assumption) | assumption)
                                    have q430 : x9_3 < (t423.length : Int) := of_decide_eq_true (by first | (with_reducible assumption) | assumption)
                                    obtain ⟨ad430, e430, hx430_0, hx430_1⟩ := at_T70 (Kd.R_reads' HO_6.out).2.2 x9_3 p430 q430
                                    obtain rfl : ad428 = ad430 := (by injection e430)
                                    replace p430 := eq_true p430
                                    replace q430 := eq_true q430
                                    have p31 : 0 ≤ ((ji28) : Int) := of_decide_eq_true (by first | (with_reducible assumption) | assumption)
                                    have q31 : (ji28) < (a0.size : Int) := of_decide_eq_true (by first | (with_reducible assumption) | assumption)
                                    have hx31 := bt_at a0 (ji28)
                                    replace p31 := eq_true p31
                                    replace q31 := eq_true q31
                                    have p431 : 0 ≤ (x9_3 : Int) := of_decide_eq_true (by first | (with_reducible assumption) | assumption)
                                    have q431 : x9_3 < (t423.length : Int) := of_decide_eq_true (by first | (with_reducible assumption) | assumption)
                                    obtain ⟨ad431, e431, hx431_0, hx431_1⟩ := at_T70 (Kd.R_reads' HO_6.out).2.2 x9_3 p431 q431
                                    obtain rfl : ad428 = ad431 := (by injection e431)
                                    replace p431 := eq_true p431
                                    replace q431 := eq_true q431
                                    go_wp2
                                    repeat (go_quiet (fail); try go_wp2)
                                    go_roundg kj18
                                    case measure => have := HJ4.out; have := HK2.out; have := HK3.out; have := HJ18.out; omega
                                    case rel => exact ⟨((rd_T70 t423 x9_3).f1), (wrap64 (x9_3 + 1)), (by first | rfl | (simp; done) | (simp [*]; done)), (by first | rfl | (simp; done) | (simp [*]; done)), H', ⟨by have := HJ4.out; have := HK2.out; have := HK3.out; have := HJ18.out; omega⟩, ⟨by (with_reducible repeat (first | apply Kd.R_alloc | apply Kd.R_drewN | apply Kd.R_drew)); exact HO_4.out⟩, ⟨by (with_reducible repeat (first | apply Kd.R_alloc | apply Kd.R_drewN | apply Kd.R_drew)); exact HO_6.out⟩, ⟨by repeat (first | (with_reducible first | exact HB.out | apply below_alloc | apply pw_below_drewN | apply below_drew1) | exact HB.out)⟩⟩
                                  · rw [if_neg c32] at H
                                    have c32b0 : ((bt a0 (ji28)) == 10) = false := beq_eq_false_iff_ne.mpr c32
                                    have c32b1 : ((bt a0 (ji28)) != 10) = true := bne_iff_ne.mpr c32
                                    obtain rfl := Option.some.inj H
                                    obtain ⟨Ao34, co34, eo34⟩ := Kd.R_slice HO_6.out
                                    subst eo34
                                    have p428 : 0 ≤ (x9_3 : Int) := of_decide_eq_true (by first | (with_reducible assumption) | assumption)
                                    have q428 : x9_3 < (t423.length : Int) := of_decide_eq_true (by first | (with_reducible assumption) | assumption)
                                    obtain ⟨ad428, e428, hx428_0, hx428_1⟩ := at_T70 (Kd.R_reads' HO_6.out).2.2 x9_3 p428 q428
                                    cases e428
                                    replace p428 := eq_true p428
                                    replace q428 := eq_true q428
                                    have p429 : 0 ≤ (x9_3 : Int) := of_decide_eq_true (by first | (with_reducible assumption) | assumption)
                                    have q429 : x9_3 < (t423.length : Int) := of_decide_eq_true (by first | (with_reducible assumption) | assumption)
                                    obtain ⟨ad429, e429, hx429_0, hx429_1⟩ := at_T70 (Kd.R_reads' HO_6.out).2.2 x9_3 p429 q429
                                    obtain rfl : ad428 = ad429 := (by injection e429)
                                    replace p429 := eq_true p429
                                    replace q429 := eq_true q429
                                    have p430 : 0 ≤ (x9_3 : Int) := of_decide_eq_true (by first | (with_reducible assumption) | assumption)
                                    have q430 : x9_3 < (t423.length : Int) := of_decide_eq_true (by first | (with_reducible assumption) | assumption)
                                    obtain ⟨ad430, e430, hx430_0, hx430_1⟩ := at_T70 (Kd.R_reads' HO_6.out).2.2 x9_3 p430 q430
                                    obtain rfl : ad428 = ad430 := (by injection e430)
                                    replace p430 := eq_true p430
                                    replace q430 := eq_true q430
                                    have p31 : 0 ≤ ((ji28) : Int) := of_decide_eq_true (by first | (with_reducible assumption) | assumption)
                                    have q31 : (ji28) < (a0.size : Int) := of_decide_eq_true (by first | (with_reducible assumption) | assumption)
                                    have hx31 := bt_at a0 (ji28)
                                    replace p31 := eq_true p31
                                    replace q31 := eq_true q31
                                    go_wp2
                                    repeat (go_quiet (fail); try go_wp2)
                                    go_ret
                                    exact ⟨by first | rfl | (simp [errW_none, errW_some] <;> rfl) | (simp only [← hji28]; first | rfl | (simp [errW_none, errW_some] <;> rfl)) | (simp [*, errW_none, errW_some] <;> rfl), by repeat (first | (with_reducible first | exact HB.out | apply below_alloc | apply pw_below_drewN | apply below_drew1) | exact HB.out)⟩
                                · rw [if_neg c30] at H
                                  exact absurd H (by simp)
                              · rw [if_neg c29] at H
                                exact absurd H (by simp)
                            · rw [if_neg c27] at H
                              have c27b0 : ((wrap64 (((rd_T70 t423 x9_3).f1) - ((rd_T70 t423 x9_3).f0))) == 2) = false := beq_eq_false_iff_ne.mpr c27
                              have c27b1 : ((wrap64 (((rd_T70 t423 x9_3).f1) - ((rd_T70 t423 x9_3).f0))) != 2) = true := bne_iff_ne.mpr c27
                              by_cases c35 : (wrap64 (((rd_T70 t423 x9_3).f1) - ((rd_T70 t423 x9_3).f0))) = 4
                              · rw [if_pos c35] at H
                                have c35b0 : ((wrap64 (((rd_T70 t423 x9_3).f1) - ((rd_T70 t423 x9_3).f0))) == 4) = true := beq_iff_eq.mpr c35
                                have c35b1 : ((wrap64 (((rd_T70 t423 x9_3).f1) - ((rd_T70 t423 x9_3).f0))) != 4) = false := bne_eq_false_iff_eq.mpr c35
                                clear c35
                                obtain ⟨ji36, hji36⟩ : ∃ j_ : Int, (wrap64 (((rd_T70 t423 x9_3).f1) - 1)) = j_ := ⟨_, rfl⟩
                                replace H : (if 0 ≤ (ji36) then (if (ji36) < (a0.size : Int) then (if (bt a0 (ji36)) = 10 then (regletlaw01_PhysCovers.l1 kj18 a0 t419 t423 t424 ((rd_T70 t423 x9_3).f1) (wrap64 (x9_3 + 1)) x10_2) else (some false)) else (none)) else (none)) = some r := by first | (rw [hji36] at H; exact H) | (simp only [hji36] at H ⊢; exact H)
                                have hji36w : (IntKind.i64.wrap (((rd_T70 t423 x9_3).f1) - 1)) = ji36 := (i64_w _).trans hji36
                                by_cases c37 : 0 ≤ (ji36)
                                · rw [if_pos c37] at H
                                  have c37b0 : decide (0 ≤ (ji36)) = true := decide_eq_true c37
                                  clear c37
                                  by_cases c38 : (ji36) < (a0.size : Int)
                                  · rw [if_pos c38] at H
                                    have c38b0 : decide ((ji36) < (a0.size : Int)) = true := decide_eq_true c38
                                    clear c38
                                    by_cases c40 : (bt a0 (ji36)) = 10
                                    · rw [if_pos c40] at H
                                      have c40b0 : ((bt a0 (ji36)) == 10) = true := beq_iff_eq.mpr c40
                                      have c40b1 : ((bt a0 (ji36)) != 10) = false := bne_eq_false_iff_eq.mpr c40
                                      clear c40
                                      have H' := Aside0.mk H
                                      clear H
                                      obtain ⟨Ao41, co41, eo41⟩ := Kd.R_slice HO_6.out
                                      subst eo41
                                      have p428 : 0 ≤ (x9_3 : Int) := of_decide_eq_true (by first | (with_reducible assumption) | assumption)
                                      have q428 : x9_3 < (t423.length : Int) := of_decide_eq_true (by first | (with_reducible assumption) | assumption)
                                      obtain ⟨ad428, e428, hx428_0, hx428_1⟩ := at_T70 (Kd.R_reads' HO_6.out).2.2 x9_3 p428 q428
                                      cases e428
                                      replace p428 := eq_true p428
                                      replace q428 := eq_true q428
                                      have p429 : 0 ≤ (x9_3 : Int) := of_decide_eq_true (by first | (with_reducible assumption) | assumption)
                                      have q429 : x9_3 < (t423.length : Int) := of_decide_eq_true (by first | (with_reducible assumption) | assumption)
                                      obtain ⟨ad429, e429, hx429_0, hx429_1⟩ := at_T70 (Kd.R_reads' HO_6.out).2.2 x9_3 p429 q429
                                      obtain rfl : ad428 = ad429 := (by injection e429)
                                      replace p429 := eq_true p429
                                      replace q429 := eq_true q429
                                      have p432 : 0 ≤ (x9_3 : Int) := of_decide_eq_true (by first | (with_reducible assumption) | assumption)
                                      have q432 : x9_3 < (t423.length : Int) := of_decide_eq_true (by first | (with_reducible assumption) | assumption)
                                      obtain ⟨ad432, e432, hx432_0, hx432_1⟩ := at_T70 (Kd.R_reads' HO_6.out).2.2 x9_3 p432 q432
                                      obtain rfl : ad428 = ad432 := (by injection e432)
                                      replace p432 := eq_true p432
                                      replace q432 := eq_true q432
                                      have p39 : 0 ≤ ((ji36) : Int) := of_decide_eq_true (by first | (with_reducible assumption) | assumption)
                                      have q39 : (ji36) < (a0.size : Int) := of_decide_eq_true (by first | (with_reducible assumption) | assumption)
                                      have hx39 := bt_at a0 (ji36)
                                      replace p39 := eq_true p39
                                      replace q39 := eq_true q39
                                      have p433 : 0 ≤ (x9_3 : Int) := of_decide_eq_true (by first | (with_reducible assumption) | assumption)
                                      have q433 : x9_3 < (t423.length : Int) := of_decide_eq_true (by first | (with_reducible assumption) | assumption)
                                      obtain ⟨ad433, e433, hx433_0, hx433_1⟩ := at_T70 (Kd.R_reads' HO_6.out).2.2 x9_3 p433 q433
                                      obtain rfl : ad428 = ad433 := (by injection e433)
                                      replace p433 := eq_true p433
                                      replace q433 := eq_true q433
                                      go_wp2
                                      repeat (go_quiet (fail); try go_wp2)
                                      go_roundg kj18
                                      case measure => have := HJ4.out; have := HK2.out; have := HK3.out; have := HJ18.out; omega
                                      case rel => exact ⟨((rd_T70 t423 x9_3).f1), (wrap64 (x9_3 + 1)), (by first | rfl | (simp; done) | (simp [*]; done)), (by first | rfl | (simp; done) | (simp [*]; done)), H', ⟨by have := HJ4.out; have := HK2.out; have := HK3.out; have := HJ18.out; omega⟩, ⟨by (with_reducible repeat (first | apply Kd.R_alloc | apply Kd.R_drewN | apply Kd.R_drew)); exact HO_4.out⟩, ⟨by (with_reducible repeat (first | apply Kd.R_alloc | apply Kd.R_drewN | apply Kd.R_drew)); exact HO_6.out⟩, ⟨by repeat (first | (with_reducible first | exact HB.out | apply below_alloc | apply pw_below_drewN | apply below_drew1) | exact HB.out)⟩⟩
                                    · rw [if_neg c40] at H
                                      have c40b0 : ((bt a0 (ji36)) == 10) = false := beq_eq_false_iff_ne.mpr c40
                                      have c40b1 : ((bt a0 (ji36)) != 10) = true := bne_iff_ne.mpr c40
                                      obtain rfl := Option.some.inj H
                                      obtain ⟨Ao42, co42, eo42⟩ := Kd.R_slice HO_6.out
                                      subst eo42
                                      have p428 : 0 ≤ (x9_3 : Int) := of_decide_eq_true (by first | (with_reducible assumption) | assumption)
                                      have q428 : x9_3 < (t423.length : Int) := of_decide_eq_true (by first | (with_reducible assumption) | assumption)
                                      obtain ⟨ad428, e428, hx428_0, hx428_1⟩ := at_T70 (Kd.R_reads' HO_6.out).2.2 x9_3 p428 q428
                                      cases e428
                                      replace p428 := eq_true p428
                                      replace q428 := eq_true q428
                                      have p429 : 0 ≤ (x9_3 : Int) := of_decide_eq_true (by first | (with_reducible assumption) | assumption)
                                      have q429 : x9_3 < (t423.length : Int) := of_decide_eq_true (by first | (with_reducible assumption) | assumption)
                                      obtain ⟨ad429, e429, hx429_0, hx429_1⟩ := at_T70 (Kd.R_reads' HO_6.out).2.2 x9_3 p429 q429
                                      obtain rfl : ad428 = ad429 := (by injection e429)
                                      replace p429 := eq_true p429
                                      replace q429 := eq_true q429
                                      have p432 : 0 ≤ (x9_3 : Int) := of_decide_eq_true (by first | (with_reducible assumption) | assumption)
                                      have q432 : x9_3 < (t423.length : Int) := of_decide_eq_true (by first | (with_reducible assumption) | assumption)
                                      obtain ⟨ad432, e432, hx432_0, hx432_1⟩ := at_T70 (Kd.R_reads' HO_6.out).2.2 x9_3 p432 q432
                                      obtain rfl : ad428 = ad432 := (by injection e432)
                                      replace p432 := eq_true p432
                                      replace q432 := eq_true q432
                                      have p39 : 0 ≤ ((ji36) : Int) := of_decide_eq_true (by first | (with_reducible assumption) | assumption)
                                      have q39 : (ji36) < (a0.size : Int) := of_decide_eq_true (by first | (with_reducible assumption) | assumption)
                                      have hx39 := bt_at a0 (ji36)
                                      replace p39 := eq_true p39
                                      replace q39 := eq_true q39
                                      go_wp2
                                      repeat (go_quiet (fail); try go_wp2)
                                      go_ret
                                      exact ⟨by first | rfl | (simp [errW_none, errW_some] <;> rfl) | (simp only [← hji36]; first | rfl | (simp [errW_none, errW_some] <;> rfl)) | (simp [*, errW_none, errW_some] <;> rfl), by repeat (first | (with_reducible first | exact HB.out | apply below_alloc | apply pw_below_drewN | apply below_drew1) | exact HB.out)⟩
                                  · rw [if_neg c38] at H
                                    exact absurd H (by simp)
                                · rw [if_neg c37] at H
                                  exact absurd H (by simp)
                              · rw [if_neg c35] at H
                                have c35b0 : ((wrap64 (((rd_T70 t423 x9_3).f1) - ((rd_T70 t423 x9_3).f0))) == 4) = false := beq_eq_false_iff_ne.mpr c35
                                have c35b1 : ((wrap64 (((rd_T70 t423 x9_3).f1) - ((rd_T70 t423 x9_3).f0))) != 4) = true := bne_iff_ne.mpr c35
                                obtain rfl := Option.some.inj H
                                obtain ⟨Ao43, co43, eo43⟩ := Kd.R_slice HO_6.out
                                subst eo43
                                have p428 : 0 ≤ (x9_3 : Int) := of_decide_eq_true (by first | (with_reducible assumption) | assumption)
                                have q428 : x9_3 < (t423.length : Int) := of_decide_eq_true (by first | (with_reducible assumption) | assumption)
                                obtain ⟨ad428, e428, hx428_0, hx428_1⟩ := at_T70 (Kd.R_reads' HO_6.out).2.2 x9_3 p428 q428
                                cases e428
                                replace p428 := eq_true p428
                                replace q428 := eq_true q428
                                have p429 : 0 ≤ (x9_3 : Int) := of_decide_eq_true (by first | (with_reducible assumption) | assumption)
                                have q429 : x9_3 < (t423.length : Int) := of_decide_eq_true (by first | (with_reducible assumption) | assumption)
                                obtain ⟨ad429, e429, hx429_0, hx429_1⟩ := at_T70 (Kd.R_reads' HO_6.out).2.2 x9_3 p429 q429
                                obtain rfl : ad428 = ad429 := (by injection e429)
                                replace p429 := eq_true p429
                                replace q429 := eq_true q429
                                go_wp2
                                repeat (go_quiet (fail); try go_wp2)
                                go_ret
                                exact ⟨by first | rfl | (simp [errW_none, errW_some] <;> rfl) | (simp [*, errW_none, errW_some] <;> rfl), by repeat (first | (with_reducible first | exact HB.out | apply below_alloc | apply pw_below_drewN | apply below_drew1) | exact HB.out)⟩
                          · rw [if_neg c26] at H
                            exact absurd H (by simp)
                        · rw [if_neg c25] at H
                          exact absurd H (by simp)
                      · replace c24 := Bool.eq_false_iff.mpr c24
                        subst c24
                        have H1 : (if x10_2 = (t419.length : Int) then (if x8_3 = (a0.size : Int) then (if x9_3 = (t423.length : Int) then (some (t424 == 0)) else (some false)) else (some false)) else (if 0 ≤ x10_2 then (if x10_2 < (t419.length : Int) then (if ((rd_T55 t419 x10_2).f1) = x8_3 then (regletlaw01_PhysCovers.j4 kj18 a0 t419 t423 t424 x8_3 x9_3 x10_2 (decide ((wrap64 (x8_3 + ((rd_T55 t419 x10_2).f2))) > (a0.size : Int)))) else (regletlaw01_PhysCovers.j4 kj18 a0 t419 t423 t424 x8_3 x9_3 x10_2 true)) else (none)) else (none))) = some r := by rw [if_neg (show ¬ (false = true) by decide)] at H; exact H
                        clear H
                        have H := H1
                        clear H1
                        by_cases c44 : x10_2 = (t419.length : Int)
                        · rw [if_pos c44] at H
                          have c44b0 : (x10_2 == (t419.length : Int)) = true := beq_iff_eq.mpr c44
                          have c44b1 : (x10_2 != (t419.length : Int)) = false := bne_eq_false_iff_eq.mpr c44
                          clear c44
                          by_cases c45 : x8_3 = (a0.size : Int)
                          · rw [if_pos c45] at H
                            have c45b0 : (x8_3 == (a0.size : Int)) = true := beq_iff_eq.mpr c45
                            have c45b1 : (x8_3 != (a0.size : Int)) = false := bne_eq_false_iff_eq.mpr c45
                            clear c45
                            by_cases c46 : x9_3 = (t423.length : Int)
                            · rw [if_pos c46] at H
                              have c46b0 : (x9_3 == (t423.length : Int)) = true := beq_iff_eq.mpr c46
                              have c46b1 : (x9_3 != (t423.length : Int)) = false := bne_eq_false_iff_eq.mpr c46
                              clear c46
                              obtain rfl := Option.some.inj H
                              obtain ⟨Ao47, co47, eo47⟩ := Kd.R_slice HO_6.out
                              subst eo47
                              go_wp2
                              repeat (go_quiet (fail); try go_wp2)
                              go_ret
                              exact ⟨by first | rfl | (simp [errW_none, errW_some] <;> rfl) | (simp [*, errW_none, errW_some] <;> rfl), by repeat (first | (with_reducible first | exact HB.out | apply below_alloc | apply pw_below_drewN | apply below_drew1) | exact HB.out)⟩
                            · rw [if_neg c46] at H
                              have c46b0 : (x9_3 == (t423.length : Int)) = false := beq_eq_false_iff_ne.mpr c46
                              have c46b1 : (x9_3 != (t423.length : Int)) = true := bne_iff_ne.mpr c46
                              obtain rfl := Option.some.inj H
                              obtain ⟨Ao48, co48, eo48⟩ := Kd.R_slice HO_6.out
                              subst eo48
                              go_wp2
                              repeat (go_quiet (fail); try go_wp2)
                              go_ret
                              exact ⟨by first | rfl | (simp [errW_none, errW_some] <;> rfl) | (simp [*, errW_none, errW_some] <;> rfl), by repeat (first | (with_reducible first | exact HB.out | apply below_alloc | apply pw_below_drewN | apply below_drew1) | exact HB.out)⟩
                          · rw [if_neg c45] at H
                            have c45b0 : (x8_3 == (a0.size : Int)) = false := beq_eq_false_iff_ne.mpr c45
                            have c45b1 : (x8_3 != (a0.size : Int)) = true := bne_iff_ne.mpr c45
                            obtain rfl := Option.some.inj H
                            go_wp2
                            repeat (go_quiet (fail); try go_wp2)
                            go_ret
                            exact ⟨by first | rfl | (simp [errW_none, errW_some] <;> rfl) | (simp [*, errW_none, errW_some] <;> rfl), by repeat (first | (with_reducible first | exact HB.out | apply below_alloc | apply pw_below_drewN | apply below_drew1) | exact HB.out)⟩
                        · rw [if_neg c44] at H
                          have c44b0 : (x10_2 == (t419.length : Int)) = false := beq_eq_false_iff_ne.mpr c44
                          have c44b1 : (x10_2 != (t419.length : Int)) = true := bne_iff_ne.mpr c44
                          have HC49 := Aside0.mk H
                          clear H
                          go_upto_region 18 with (fail)
                          repeat (go_quiet (fail); go_upto_region 18 with (fail))
                          go_cut [124] (fun v124 wc => ∃ (kq : Nat) (x124_48 : Bool), v124 = .bool x124_48 ∧ Aside0 (regletlaw01_PhysCovers.j4 kq a0 t419 t423 t424 x8_3 x9_3 x10_2 x124_48 = some r) ∧ Aside0 (kq ≤ kj18) ∧ Aside0 (Kd.R k55 55 wc w.heap.size (fun _ => True) (.slice Ao18 t419.length co18) t419) ∧ Aside0 (Kd.R k70 70 wc w.heap.size (fun _ => True) v425 t423) ∧ Aside0 (Below w.heap.size w wc))
                          case first =>
                            have H := HC49.out
                            clear HC49
                            by_cases c50 : 0 ≤ x10_2
                            · rw [if_pos c50] at H
                              have c50b0 : decide (0 ≤ x10_2) = true := decide_eq_true c50
                              clear c50
                              (first | rw [c50b0] | (simp only [i64_w, i32_w]; rw [c50b0]) | skip)
                              by_cases c51 : x10_2 < (t419.length : Int)
                              · rw [if_pos c51] at H
                                have c51b0 : decide (x10_2 < (t419.length : Int)) = true := decide_eq_true c51
                                clear c51
                                by_cases c52 : ((rd_T55 t419 x10_2).f1) = x8_3
                                · rw [if_pos c52] at H
                                  have c52b0 : (((rd_T55 t419 x10_2).f1) == x8_3) = true := beq_iff_eq.mpr c52
                                  have c52b1 : (((rd_T55 t419 x10_2).f1) != x8_3) = false := bne_eq_false_iff_eq.mpr c52
                                  clear c52
                                  have H' := Aside0.mk H
                                  clear H
                                  have p434 : 0 ≤ (x10_2 : Int) := of_decide_eq_true (by first | (with_reducible assumption) | assumption)
                                  have q434 : x10_2 < (t419.length : Int) := of_decide_eq_true (by first | (with_reducible assumption) | assumption)
                                  obtain ⟨ad434, e434, hx434_0, hx434_1, hx434_2⟩ := at_T55 (Kd.R_reads' HO_4.out).2.2 x10_2 p434 q434
                                  cases e434
                                  replace p434 := eq_true p434
                                  replace q434 := eq_true q434
                                  have p435 : 0 ≤ (x10_2 : Int) := of_decide_eq_true (by first | (with_reducible assumption) | assumption)
                                  have q435 : x10_2 < (t419.length : Int) := of_decide_eq_true (by first | (with_reducible assumption) | assumption)
                                  obtain ⟨ad435, e435, hx435_0, hx435_1, hx435_2⟩ := at_T55 (Kd.R_reads' HO_4.out).2.2 x10_2 p435 q435
                                  obtain rfl : ad434 = ad435 := (by injection e435)
                                  replace p435 := eq_true p435
                                  replace q435 := eq_true q435
                                  go_wp2
                                  repeat (go_quiet (fail); try go_wp2)
                                  go_meet
                                  case rel => exact ⟨_, (decide ((wrap64 (x8_3 + ((rd_T55 t419 x10_2).f2))) > (a0.size : Int))), (by first | rfl | (simp; done) | (simp [*]; done)), H', ⟨by have := HJ4.out; have := HK2.out; have := HK3.out; have := HJ18.out; first | omega | exact Nat.le_refl _⟩, ⟨by (with_reducible repeat (first | apply Kd.R_alloc | apply Kd.R_drewN | apply Kd.R_drew)); exact HO_4.out⟩, ⟨by (with_reducible repeat (first | apply Kd.R_alloc | apply Kd.R_drewN | apply Kd.R_drew)); exact HO_6.out⟩, ⟨by repeat (first | (with_reducible first | exact HB.out | apply below_alloc | apply pw_below_drewN | apply below_drew1) | exact HB.out)⟩⟩
                                · rw [if_neg c52] at H
                                  have c52b0 : (((rd_T55 t419 x10_2).f1) == x8_3) = false := beq_eq_false_iff_ne.mpr c52
                                  have c52b1 : (((rd_T55 t419 x10_2).f1) != x8_3) = true := bne_iff_ne.mpr c52
                                  have H' := Aside0.mk H
                                  clear H
                                  have p434 : 0 ≤ (x10_2 : Int) := of_decide_eq_true (by first | (with_reducible assumption) | assumption)
                                  have q434 : x10_2 < (t419.length : Int) := of_decide_eq_true (by first | (with_reducible assumption) | assumption)
                                  obtain ⟨ad434, e434, hx434_0, hx434_1, hx434_2⟩ := at_T55 (Kd.R_reads' HO_4.out).2.2 x10_2 p434 q434
                                  cases e434
                                  replace p434 := eq_true p434
                                  replace q434 := eq_true q434
                                  go_wp2
                                  repeat (go_quiet (fail); try go_wp2)
                                  go_meet
                                  case rel => exact ⟨_, (true), (by first | rfl | (simp; done) | (simp [*]; done)), H', ⟨by have := HJ4.out; have := HK2.out; have := HK3.out; have := HJ18.out; first | omega | exact Nat.le_refl _⟩, ⟨by (with_reducible repeat (first | apply Kd.R_alloc | apply Kd.R_drewN | apply Kd.R_drew)); exact HO_4.out⟩, ⟨by (with_reducible repeat (first | apply Kd.R_alloc | apply Kd.R_drewN | apply Kd.R_drew)); exact HO_6.out⟩, ⟨by repeat (first | (with_reducible first | exact HB.out | apply below_alloc | apply pw_below_drewN | apply below_drew1) | exact HB.out)⟩⟩
                              · rw [if_neg c51] at H
                                exact absurd H (by simp)
                            · rw [if_neg c50] at H
                              exact absurd H (by simp)
                          case rest =>
                            clear HC49
                            try clear c1
                            try clear c2
                            try clear p2
                            try clear c3
                            try clear p3
                            try clear q3
                            try clear hx3
                            try clear c4
                            try clear p4
                            try clear q4
                            try clear hx4
                            try clear c5
                            try clear p6
                            try clear c9
                            try clear c9b0
                            try clear c9b1
                            try clear c10
                            try clear c11
                            try clear c12
                            try clear c12b0
                            try clear c12b1
                            try clear c13
                            try clear c13b0
                            try clear c13b1
                            try clear c13b2
                            try clear c17
                            try clear c17b0
                            try clear c20
                            try clear c20b0
                            try clear c21
                            try clear c21b0
                            try clear c24
                            try clear c25
                            try clear c25b0
                            try clear c26
                            try clear c26b0
                            try clear c27
                            try clear c27b0
                            try clear c27b1
                            try clear c29
                            try clear c29b0
                            try clear c30
                            try clear c30b0
                            try clear p31
                            try clear q31
                            try clear hx31
                            try clear c32
                            try clear c32b0
                            try clear c32b1
                            try clear c35
                            try clear c35b0
                            try clear c35b1
                            try clear c37
                            try clear c37b0
                            try clear c38
                            try clear c38b0
                            try clear p39
                            try clear q39
                            try clear hx39
                            try clear c40
                            try clear c40b0
                            try clear c40b1
                            try clear p42
                            try clear q42
                            try clear hx42
                            try clear p43
                            try clear q43
                            try clear hx43
                            try clear c44
                            try clear c44b0
                            try clear c44b1
                            try clear c45
                            try clear c45b0
                            try clear c45b1
                            try clear c46
                            try clear c46b0
                            try clear c46b1
                            try clear c50
                            try clear c50b0
                            try clear c51
                            try clear c51b0
                            try clear c52
                            try clear c52b0
                            try clear c52b1
                            try clear hx427_0
                            try clear hx427_1
                            try clear hx428_0
                            try clear hx428_1
                            try clear hx429_0
                            try clear hx429_1
                            try clear hx430_0
                            try clear hx430_1
                            try clear hx431_0
                            try clear hx431_1
                            try clear hx432_0
                            try clear hx432_1
                            try clear hx433_0
                            try clear hx433_1
                            try clear hx434_0
                            try clear hx434_1
                            try clear hx434_2
                            try clear hx435_0
                            try clear hx435_1
                            try clear hx435_2
                            try clear p2
                            try clear p31
                            try clear p39
                            try clear p4
                            try clear p427
                            try clear p428
                            try clear p429
                            try clear p430
                            try clear p431
                            try clear p432
                            try clear p433
                            try clear p434
                            try clear p435
                            try clear q31
                            try clear q39
                            try clear q4
                            try clear q427
                            try clear q428
                            try clear q429
                            try clear q430
                            try clear q431
                            try clear q432
                            try clear q433
                            try clear q434
                            try clear q435
                            obtain ⟨kq, x124_48, rfl, HA, HJ48, HO_4, HO_6, HB⟩ := hcut
                            cases kq with
                            | zero => exact absurd HA.out (by simp [regletlaw01_PhysCovers.j4])
                            | succ kj48 =>
                              have H := HA.out
                              clear HA
                              simp only [regletlaw01_PhysCovers.j4] at H
                              by_cases c53 : x124_48 = true
                              · subst c53
                                have H1 : (some false) = some r := by rw [if_pos rfl] at H; exact H
                                clear H
                                have H := H1
                                clear H1
                                obtain rfl := Option.some.inj H
                                go_wp2
                                repeat (go_quiet (fail); try go_wp2)
                                go_ret
                                exact ⟨by first | rfl | (simp [errW_none, errW_some] <;> rfl) | (simp [*, errW_none, errW_some] <;> rfl), by repeat (first | (with_reducible first | exact HB.out | apply below_alloc | apply pw_below_drewN | apply below_drew1) | exact HB.out)⟩
                              · replace c53 := Bool.eq_false_iff.mpr c53
                                subst c53
                                have H1 : (if 0 ≤ x8_3 then (if x8_3 < (a0.size : Int) then (if 0 ≤ x10_2 then (if x10_2 < (t419.length : Int) then (if ((rd_T55 t419 x10_2).f2) = 3 then (if 0 ≤ (wrap64 (x8_3 + 2)) then (if (wrap64 (x8_3 + 2)) < (a0.size : Int) then ((phys_Third.f (bt a0 (wrap64 (x8_3 + 2)))).bind fun bt437 => (if bt437.2 = true then (if x8_3 ≤ (wrap64 (x8_3 + 2)) then (if (wrap64 (x8_3 + 2)) ≤ (a0.size : Int) then (regletlaw01_PhysCovers.j5 kj48 a0 t419 t423 t424 x8_3 x9_3 x10_2 bt437.1 ((a0.extract (x8_3 : Int).toNat ((wrap64 (x8_3 + 2)) : Int).toNat).toList != ([63, 63] : List UInt8))) else (none)) else (none)) else (regletlaw01_PhysCovers.j5 kj48 a0 t419 t423 t424 x8_3 x9_3 x10_2 bt437.1 true))) else (none)) else (none)) else (if ((rd_T55 t419 x10_2).f0) = (bt a0 x8_3) then (if ((rd_T55 t419 x10_2).f2) = 1 then (regletlaw01_PhysCovers.l0 kj48 a0 t419 t423 t424 (wrap64 (x8_3 + ((rd_T55 t419 x10_2).f2))) x9_3 (wrap64 (x10_2 + 1))) else (some false)) else (some false))) else (none)) else (none)) else (none)) else (none)) = some r := by rw [if_neg (show ¬ (false = true) by decide)] at H; exact H
                                clear H
                                have H := H1
                                clear H1
                                by_cases c54 : 0 ≤ x8_3
                                · rw [if_pos c54] at H
                                  have c54b0 : decide (0 ≤ x8_3) = true := decide_eq_true c54
                                  clear c54
                                  by_cases c55 : x8_3 < (a0.size : Int)
                                  · rw [if_pos c55] at H
                                    have c55b0 : decide (x8_3 < (a0.size : Int)) = true := decide_eq_true c55
                                    clear c55
                                    by_cases c57 : 0 ≤ x10_2
                                    · rw [if_pos c57] at H
                                      have c57b0 : decide (0 ≤ x10_2) = true := decide_eq_true c57
                                      clear c57
                                      by_cases c58 : x10_2 < (t419.length : Int)
                                      · rw [if_pos c58] at H
                                        have c58b0 : decide (x10_2 < (t419.length : Int)) = true := decide_eq_true c58
                                        clear c58
                                        by_cases c59 : ((rd_T55 t419 x10_2).f2) = 3
                                        · rw [if_pos c59] at H
                                          have c59b0 : (((rd_T55 t419 x10_2).f2) == 3) = true := beq_iff_eq.mpr c59
                                          have c59b1 : (((rd_T55 t419 x10_2).f2) != 3) = false := bne_eq_false_iff_eq.mpr c59
                                          clear c59
                                          obtain ⟨ji60, hji60⟩ : ∃ j_ : Int, (wrap64 (x8_3 + 2)) = j_ := ⟨_, rfl⟩
                                          replace H : (if 0 ≤ (ji60) then (if (ji60) < (a0.size : Int) then ((phys_Third.f (bt a0 (ji60))).bind fun bt437 => (if bt437.2 = true then (if x8_3 ≤ (ji60) then (if (ji60) ≤ (a0.size : Int) then (regletlaw01_PhysCovers.j5 kj48 a0 t419 t423 t424 x8_3 x9_3 x10_2 bt437.1 ((a0.extract (x8_3 : Int).toNat ((ji60) : Int).toNat).toList != ([63, 63] : List UInt8))) else (none)) else (none)) else (regletlaw01_PhysCovers.j5 kj48 a0 t419 t423 t424 x8_3 x9_3 x10_2 bt437.1 true))) else (none)) else (none)) = some r := by first | (rw [hji60] at H; exact H) | (simp only [hji60] at H ⊢; exact H)
                                          have hji60w : (IntKind.i64.wrap (x8_3 + 2)) = ji60 := (i64_w _).trans hji60
                                          by_cases c61 : 0 ≤ (ji60)
                                          · rw [if_pos c61] at H
                                            have c61b0 : decide (0 ≤ (ji60)) = true := decide_eq_true c61
                                            clear c61
                                            by_cases c62 : (ji60) < (a0.size : Int)
                                            · rw [if_pos c62] at H
                                              have c62b0 : decide ((ji60) < (a0.size : Int)) = true := decide_eq_true c62
                                              clear c62
                                              replace H := Option.bind_eq_some_iff.mp H
                                              obtain ⟨⟨t437, t438⟩, A640, H⟩ := H
                                              replace H : (if t438 = true then (if x8_3 ≤ (ji60) then (if (ji60) ≤ (a0.size : Int) then (regletlaw01_PhysCovers.j5 kj48 a0 t419 t423 t424 x8_3 x9_3 x10_2 t437 ((a0.extract (x8_3 : Int).toNat ((ji60) : Int).toNat).toList != ([63, 63] : List UInt8))) else (none)) else (none)) else (regletlaw01_PhysCovers.j5 kj48 a0 t419 t423 t424 x8_3 x9_3 x10_2 t437 true)) = some r := H
                                              have A64 := Aside0.mk A640
                                              clear A640
                                              have HC65 := Aside0.mk H
                                              clear H
                                              have p56 : 0 ≤ (x8_3 : Int) := of_decide_eq_true (by first | (with_reducible assumption) | assumption)
                                              have q56 : x8_3 < (a0.size : Int) := of_decide_eq_true (by first | (with_reducible assumption) | assumption)
                                              have hx56 := bt_at a0 x8_3
                                              replace p56 := eq_true p56
                                              replace q56 := eq_true q56
                                              have p436 : 0 ≤ (x10_2 : Int) := of_decide_eq_true (by first | (with_reducible assumption) | assumption)
                                              have q436 : x10_2 < (t419.length : Int) := of_decide_eq_true (by first | (with_reducible assumption) | assumption)
                                              obtain ⟨ad436, e436, hx436_0, hx436_1, hx436_2⟩ := at_T55 (Kd.R_reads' HO_4.out).2.2 x10_2 p436 q436
                                              cases e436
                                              replace p436 := eq_true p436
                                              replace q436 := eq_true q436
                                              have p63 : 0 ≤ ((ji60) : Int) := of_decide_eq_true (by first | (with_reducible assumption) | assumption)
                                              have q63 : (ji60) < (a0.size : Int) := of_decide_eq_true (by first | (with_reducible assumption) | assumption)
                                              have hx63 := bt_at a0 (ji60)
                                              replace p63 := eq_true p63
                                              replace q63 := eq_true q63
                                              go_upto_region 23 with (first | (go_at_call 34; (with_reducible refine (phys_Third.calls (bt a0 (ji60)) t437 t438 _ A64.out).mono ?_); rintro e w' ⟨rfl, ⟨nd, rfl⟩⟩; (try first | exact ⟨rfl, _, World.drewN_drewN _ _ _⟩ | exact ⟨rfl, _, Eq.trans (World.drewN_drewN _ _ _) (congrArg (World.drewN _) (Nat.add_assoc _ _ _))⟩)))
                                              repeat (go_quiet (first | (go_at_call 34; (with_reducible refine (phys_Third.calls (bt a0 (ji60)) t437 t438 _ A64.out).mono ?_); rintro e w' ⟨rfl, ⟨nd, rfl⟩⟩; (try first | exact ⟨rfl, _, World.drewN_drewN _ _ _⟩ | exact ⟨rfl, _, Eq.trans (World.drewN_drewN _ _ _) (congrArg (World.drewN _) (Nat.add_assoc _ _ _))⟩))); go_upto_region 23 with (first | (go_at_call 34; (with_reducible refine (phys_Third.calls (bt a0 (ji60)) t437 t438 _ A64.out).mono ?_); rintro e w' ⟨rfl, ⟨nd, rfl⟩⟩; (try first | exact ⟨rfl, _, World.drewN_drewN _ _ _⟩ | exact ⟨rfl, _, Eq.trans (World.drewN_drewN _ _ _) (congrArg (World.drewN _) (Nat.add_assoc _ _ _))⟩))))
                                              (try simp only [Act.put, List.setIfInBounds_toArray, List.set_cons_zero, List.set_cons_succ])
                                              go_cut [151] (fun v151 wc => ∃ (kq : Nat) (x151_64 : Bool), v151 = .bool x151_64 ∧ Aside0 (regletlaw01_PhysCovers.j5 kq a0 t419 t423 t424 x8_3 x9_3 x10_2 t437 x151_64 = some r) ∧ Aside0 (kq ≤ kj48) ∧ Aside0 (Kd.R k55 55 wc w.heap.size (fun _ => True) (.slice (some ad436) t419.length co18) t419) ∧ Aside0 (Kd.R k70 70 wc w.heap.size (fun _ => True) v425 t423) ∧ Aside0 (Below w.heap.size w wc))
                                              case first =>
                                                have H := HC65.out
                                                clear HC65
                                                by_cases c66 : t438 = true
                                                · subst c66
                                                  have H1 : (if x8_3 ≤ (ji60) then (if (ji60) ≤ (a0.size : Int) then (regletlaw01_PhysCovers.j5 kj48 a0 t419 t423 t424 x8_3 x9_3 x10_2 t437 ((a0.extract (x8_3 : Int).toNat ((ji60) : Int).toNat).toList != ([63, 63] : List UInt8))) else (none)) else (none)) = some r := by rw [if_pos rfl] at H; exact H
                                                  clear H
                                                  have H := H1
                                                  clear H1
                                                  have c67b0 := eq_true (of_decide_eq_true (by first | (with_reducible assumption) | assumption) : 0 ≤ x8_3)
                                                  by_cases c68 : x8_3 ≤ (ji60)
                                                  · rw [if_pos c68] at H
                                                    have c68b0 := eq_true c68
                                                    have c68b1 : decide (x8_3 ≤ (ji60)) = true := decide_eq_true c68
                                                    clear c68
                                                    by_cases c69 : (ji60) ≤ (a0.size : Int)
                                                    · rw [if_pos c69] at H
                                                      have c69b0 := eq_true c69
                                                      have c69b1 : decide ((ji60) ≤ (a0.size : Int)) = true := decide_eq_true c69
                                                      clear c69
                                                      have H' := Aside0.mk H
                                                      clear H
                                                      go_wp2
                                                      repeat (go_quiet (fail); try go_wp2)
                                                      go_meet
                                                      case rel => exact ⟨_, (((a0.extract (x8_3 : Int).toNat ((ji60) : Int).toNat).toList != ([63, 63] : List UInt8))), (by first | rfl | (simp; done) | (simp only [← hji60] <;> (first | rfl | simp)) | (simp [*]; done)), H', ⟨by have := HJ4.out; have := HK2.out; have := HK3.out; have := HJ18.out; have := HJ48.out; first | omega | exact Nat.le_refl _⟩, ⟨by (with_reducible repeat (first | apply Kd.R_alloc | apply Kd.R_drewN | apply Kd.R_drew)); exact HO_4.out⟩, ⟨by (with_reducible repeat (first | apply Kd.R_alloc | apply Kd.R_drewN | apply Kd.R_drew)); exact HO_6.out⟩, ⟨by repeat (first | (with_reducible first | exact HB.out | apply below_alloc | apply pw_below_drewN | apply below_drew1) | exact HB.out)⟩⟩
                                                    · rw [if_neg c69] at H
                                                      exact absurd H (by simp)
                                                  · rw [if_neg c68] at H
                                                    exact absurd H (by simp)
                                                · replace c66 := Bool.eq_false_iff.mpr c66
                                                  subst c66
                                                  have H1 : (regletlaw01_PhysCovers.j5 kj48 a0 t419 t423 t424 x8_3 x9_3 x10_2 t437 true) = some r := by rw [if_neg (show ¬ (false = true) by decide)] at H; exact H
                                                  clear H
                                                  have H := H1
                                                  clear H1
                                                  have H' := Aside0.mk H
                                                  clear H
                                                  go_wp2
                                                  repeat (go_quiet (fail); try go_wp2)
                                                  go_meet
                                                  case rel => exact ⟨_, (true), (by first | rfl | (simp; done) | (simp [*]; done)), H', ⟨by have := HJ4.out; have := HK2.out; have := HK3.out; have := HJ18.out; have := HJ48.out; first | omega | exact Nat.le_refl _⟩, ⟨by (with_reducible repeat (first | apply Kd.R_alloc | apply Kd.R_drewN | apply Kd.R_drew)); exact HO_4.out⟩, ⟨by (with_reducible repeat (first | apply Kd.R_alloc | apply Kd.R_drewN | apply Kd.R_drew)); exact HO_6.out⟩, ⟨by repeat (first | (with_reducible first | exact HB.out | apply below_alloc | apply pw_below_drewN | apply below_drew1) | exact HB.out)⟩⟩
                                              case rest =>
                                                clear HC65
                                                try clear c1
                                                try clear c2
                                                try clear p2
                                                try clear c3
                                                try clear p3
                                                try clear q3
                                                try clear hx3
                                                try clear c4
                                                try clear p4
                                                try clear q4
                                                try clear hx4
                                                try clear c5
                                                try clear p5
                                                try clear q5
                                                try clear hx5
                                                try clear c6
                                                try clear p6
                                                try clear q6
                                                try clear hx6
                                                try clear c9
                                                try clear c9b0
                                                try clear c9b1
                                                try clear c10
                                                try clear c11
                                                try clear c12
                                                try clear c12b0
                                                try clear c12b1
                                                try clear c13
                                                try clear c13b0
                                                try clear c13b1
                                                try clear c13b2
                                                try clear c17
                                                try clear c17b0
                                                try clear c20
                                                try clear c20b0
                                                try clear c21
                                                try clear c21b0
                                                try clear c24
                                                try clear c25
                                                try clear c25b0
                                                try clear c26
                                                try clear c26b0
                                                try clear c27
                                                try clear c27b0
                                                try clear c27b1
                                                try clear c29
                                                try clear c29b0
                                                try clear c30
                                                try clear c30b0
                                                try clear p31
                                                try clear q31
                                                try clear hx31
                                                try clear c32
                                                try clear c32b0
                                                try clear c32b1
                                                try clear c35
                                                try clear c35b0
                                                try clear c35b1
                                                try clear c37
                                                try clear c37b0
                                                try clear c38
                                                try clear c38b0
                                                try clear p39
                                                try clear q39
                                                try clear hx39
                                                try clear c40
                                                try clear c40b0
                                                try clear c40b1
                                                try clear p42
                                                try clear q42
                                                try clear hx42
                                                try clear p43
                                                try clear q43
                                                try clear hx43
                                                try clear c44
                                                try clear c44b0
                                                try clear c44b1
                                                try clear c45
                                                try clear c45b0
                                                try clear c45b1
                                                try clear c46
                                                try clear c46b0
                                                try clear c46b1
                                                try clear c50
                                                try clear c50b0
                                                try clear c51
                                                try clear c51b0
                                                try clear c52
                                                try clear c52b0
                                                try clear c52b1
                                                try clear c53
                                                try clear c54
                                                try clear c54b0
                                                try clear c55
                                                try clear c55b0
                                                try clear p56
                                                try clear q56
                                                try clear hx56
                                                try clear c57
                                                try clear c57b0
                                                try clear c58
                                                try clear c58b0
                                                try clear c59
                                                try clear c59b0
                                                try clear c59b1
                                                try clear c61
                                                try clear c61b0
                                                try clear c62
                                                try clear c62b0
                                                try clear p63
                                                try clear q63
                                                try clear hx63
                                                try clear p64
                                                try clear c66
                                                try clear c67
                                                try clear c67b0
                                                try clear c68
                                                try clear c68b0
                                                try clear c68b1
                                                try clear c69
                                                try clear c69b0
                                                try clear c69b1
                                                try clear hx427_0
                                                try clear hx427_1
                                                try clear hx428_0
                                                try clear hx428_1
                                                try clear hx429_0
                                                try clear hx429_1
                                                try clear hx430_0
                                                try clear hx430_1
                                                try clear hx431_0
                                                try clear hx431_1
                                                try clear hx432_0
                                                try clear hx432_1
                                                try clear hx433_0
                                                try clear hx433_1
                                                try clear hx434_0
                                                try clear hx434_1
                                                try clear hx434_2
                                                try clear hx435_0
                                                try clear hx435_1
                                                try clear hx435_2
                                                try clear hx436_0
                                                try clear hx436_1
                                                try clear hx436_2
                                                try clear p2
                                                try clear p3
                                                try clear p31
                                                try clear p39
                                                try clear p4
                                                try clear p42
                                                try clear p427
                                                try clear p428
                                                try clear p429
                                                try clear p43
                                                try clear p430
                                                try clear p431
                                                try clear p432
                                                try clear p433
                                                try clear p434
                                                try clear p435
                                                try clear p436
                                                try clear p56
                                                try clear p6
                                                try clear p63
                                                try clear q3
                                                try clear q31
                                                try clear q39
                                                try clear q4
                                                try clear q42
                                                try clear q427
                                                try clear q428
                                                try clear q429
                                                try clear q43
                                                try clear q430
                                                try clear q431
                                                try clear q432
                                                try clear q433
                                                try clear q434
                                                try clear q435
                                                try clear q436
                                                try clear q56
                                                try clear q63
                                                obtain ⟨kq, x151_64, rfl, HA, HJ64, HO_4, HO_6, HB⟩ := hcut
                                                cases kq with
                                                | zero => exact absurd HA.out (by simp [regletlaw01_PhysCovers.j5])
                                                | succ kj64 =>
                                                  have H := HA.out
                                                  clear HA
                                                  simp only [regletlaw01_PhysCovers.j5] at H
                                                  by_cases c70 : x151_64 = true
                                                  · subst c70
                                                    have H1 : (some false) = some r := by rw [if_pos rfl] at H; exact H
                                                    clear H
                                                    have H := H1
                                                    clear H1
                                                    obtain rfl := Option.some.inj H
                                                    go_wp2
                                                    repeat (go_quiet (fail); try go_wp2)
                                                    go_ret
                                                    exact ⟨by first | rfl | (simp [errW_none, errW_some] <;> rfl) | (simp only [← hji60]; first | rfl | (simp [errW_none, errW_some] <;> rfl)) | (simp [*, errW_none, errW_some] <;> rfl), by repeat (first | (with_reducible first | exact HB.out | apply below_alloc | apply pw_below_drewN | apply below_drew1) | exact HB.out)⟩
                                                  · replace c70 := Bool.eq_false_iff.mpr c70
                                                    subst c70
                                                    have H1 : (if 0 ≤ x10_2 then (if x10_2 < (t419.length : Int) then (if ((rd_T55 t419 x10_2).f0) = t437 then (if ((rd_T55 t419 x10_2).f2) = 1 then (regletlaw01_PhysCovers.l0 kj64 a0 t419 t423 t424 (wrap64 (x8_3 + ((rd_T55 t419 x10_2).f2))) x9_3 (wrap64 (x10_2 + 1))) else (if ((rd_T55 t419 x10_2).f2) = 3 then (regletlaw01_PhysCovers.l0 kj64 a0 t419 t423 t424 (wrap64 (x8_3 + ((rd_T55 t419 x10_2).f2))) x9_3 (wrap64 (x10_2 + 1))) else (some false))) else (some false)) else (none)) else (none)) = some r := by rw [if_neg (show ¬ (false = true) by decide)] at H; exact H
                                                    clear H
                                                    have H := H1
                                                    clear H1
                                                    by_cases c71 : 0 ≤ x10_2
                                                    · rw [if_pos c71] at H
                                                      have c71b0 : decide (0 ≤ x10_2) = true := decide_eq_true c71
                                                      clear c71
                                                      by_cases c72 : x10_2 < (t419.length : Int)
                                                      · rw [if_pos c72] at H
                                                        have c72b0 : decide (x10_2 < (t419.length : Int)) = true := decide_eq_true c72
                                                        clear c72
                                                        by_cases c73 : ((rd_T55 t419 x10_2).f0) = t437
                                                        · rw [if_pos c73] at H
                                                          have c73b0 : (((rd_T55 t419 x10_2).f0) == t437) = true := beq_iff_eq.mpr c73
                                                          have c73b1 : (((rd_T55 t419 x10_2).f0) != t437) = false := bne_eq_false_iff_eq.mpr c73
                                                          clear c73
                                                          by_cases c74 : ((rd_T55 t419 x10_2).f2) = 1
                                                          · rw [if_pos c74] at H
                                                            have c74b0 : (((rd_T55 t419 x10_2).f2) == 1) = true := beq_iff_eq.mpr c74
                                                            have c74b1 : (((rd_T55 t419 x10_2).f2) != 1) = false := bne_eq_false_iff_eq.mpr c74
                                                            clear c74
                                                            have H' := Aside0.mk H
                                                            clear H
                                                            have p439 : 0 ≤ (x10_2 : Int) := of_decide_eq_true (by first | (with_reducible assumption) | assumption)
                                                            have q439 : x10_2 < (t419.length : Int) := of_decide_eq_true (by first | (with_reducible assumption) | assumption)
                                                            obtain ⟨ad439, e439, hx439_0, hx439_1, hx439_2⟩ := at_T55 (Kd.R_reads' HO_4.out).2.2 x10_2 p439 q439
                                                            obtain rfl : ad436 = ad439 := (by injection e439)
                                                            replace p439 := eq_true p439
                                                            replace q439 := eq_true q439
                                                            have p440 : 0 ≤ (x10_2 : Int) := of_decide_eq_true (by first | (with_reducible assumption) | assumption)
                                                            have q440 : x10_2 < (t419.length : Int) := of_decide_eq_true (by first | (with_reducible assumption) | assumption)
                                                            obtain ⟨ad440, e440, hx440_0, hx440_1, hx440_2⟩ := at_T55 (Kd.R_reads' HO_4.out).2.2 x10_2 p440 q440
                                                            obtain rfl : ad436 = ad440 := (by injection e440)
                                                            replace p440 := eq_true p440
                                                            replace q440 := eq_true q440
                                                            have p441 : 0 ≤ (x10_2 : Int) := of_decide_eq_true (by first | (with_reducible assumption) | assumption)
                                                            have q441 : x10_2 < (t419.length : Int) := of_decide_eq_true (by first | (with_reducible assumption) | assumption)
                                                            obtain ⟨ad441, e441, hx441_0, hx441_1, hx441_2⟩ := at_T55 (Kd.R_reads' HO_4.out).2.2 x10_2 p441 q441
                                                            obtain rfl : ad436 = ad441 := (by injection e441)
                                                            replace p441 := eq_true p441
                                                            replace q441 := eq_true q441
                                                            go_wp2
                                                            repeat (go_quiet (fail); try go_wp2)
                                                            go_roundg kj64
                                                            case measure => have := HJ4.out; have := HK2.out; have := HK3.out; have := HJ18.out; have := HJ48.out; have := HJ64.out; omega
                                                            case rel => exact ⟨(wrap64 (x8_3 + ((rd_T55 t419 x10_2).f2))), (x9_3), (wrap64 (x10_2 + 1)), (by first | rfl | (simp; done) | (simp [*]; done)), (by first | rfl | (simp; done) | (simp [*]; done)), (by first | rfl | (simp; done) | (simp [*]; done)), H', ⟨by have := HJ4.out; have := HK2.out; have := HK3.out; have := HJ18.out; have := HJ48.out; have := HJ64.out; omega⟩, ⟨by (with_reducible repeat (first | apply Kd.R_alloc | apply Kd.R_drewN | apply Kd.R_drew)); exact HO_4.out⟩, ⟨by (with_reducible repeat (first | apply Kd.R_alloc | apply Kd.R_drewN | apply Kd.R_drew)); exact HO_6.out⟩, ⟨by repeat (first | (with_reducible first | exact HB.out | apply below_alloc | apply pw_below_drewN | apply below_drew1) | exact HB.out)⟩⟩
                                                          · rw [if_neg c74] at H
                                                            have c74b0 : (((rd_T55 t419 x10_2).f2) == 1) = false := beq_eq_false_iff_ne.mpr c74
                                                            have c74b1 : (((rd_T55 t419 x10_2).f2) != 1) = true := bne_iff_ne.mpr c74
                                                            by_cases c75 : ((rd_T55 t419 x10_2).f2) = 3
                                                            · rw [if_pos c75] at H
                                                              have c75b0 : (((rd_T55 t419 x10_2).f2) == 3) = true := beq_iff_eq.mpr c75
                                                              have c75b1 : (((rd_T55 t419 x10_2).f2) != 3) = false := bne_eq_false_iff_eq.mpr c75
                                                              clear c75
                                                              have H' := Aside0.mk H
                                                              clear H
                                                              have p439 : 0 ≤ (x10_2 : Int) := of_decide_eq_true (by first | (with_reducible assumption) | assumption)
                                                              have q439 : x10_2 < (t419.length : Int) := of_decide_eq_true (by first | (with_reducible assumption) | assumption)
                                                              obtain ⟨ad439, e439, hx439_0, hx439_1, hx439_2⟩ := at_T55 (Kd.R_reads' HO_4.out).2.2 x10_2 p439 q439
                                                              obtain rfl : ad436 = ad439 := (by injection e439)
                                                              replace p439 := eq_true p439
                                                              replace q439 := eq_true q439
                                                              have p440 : 0 ≤ (x10_2 : Int) := of_decide_eq_true (by first | (with_reducible assumption) | assumption)
                                                              have q440 : x10_2 < (t419.length : Int) := of_decide_eq_true (by first | (with_reducible assumption) | assumption)
                                                              obtain ⟨ad440, e440, hx440_0, hx440_1, hx440_2⟩ := at_T55 (Kd.R_reads' HO_4.out).2.2 x10_2 p440 q440
                                                              obtain rfl : ad436 = ad440 := (by injection e440)
                                                              replace p440 := eq_true p440
                                                              replace q440 := eq_true q440
                                                              have p442 : 0 ≤ (x10_2 : Int) := of_decide_eq_true (by first | (with_reducible assumption) | assumption)
                                                              have q442 : x10_2 < (t419.length : Int) := of_decide_eq_true (by first | (with_reducible assumption) | assumption)
                                                              obtain ⟨ad442, e442, hx442_0, hx442_1, hx442_2⟩ := at_T55 (Kd.R_reads' HO_4.out).2.2 x10_2 p442 q442
                                                              obtain rfl : ad436 = ad442 := (by injection e442)
                                                              replace p442 := eq_true p442
                                                              replace q442 := eq_true q442
                                                              have p443 : 0 ≤ (x10_2 : Int) := of_decide_eq_true (by first | (with_reducible assumption) | assumption)
                                                              have q443 : x10_2 < (t419.length : Int) := of_decide_eq_true (by first | (with_reducible assumption) | assumption)
                                                              obtain ⟨ad443, e443, hx443_0, hx443_1, hx443_2⟩ := at_T55 (Kd.R_reads' HO_4.out).2.2 x10_2 p443 q443
                                                              obtain rfl : ad436 = ad443 := (by injection e443)
                                                              replace p443 := eq_true p443
                                                              replace q443 := eq_true q443
                                                              go_wp2
                                                              repeat (go_quiet (fail); try go_wp2)
                                                              go_roundg kj64
                                                              case measure => have := HJ4.out; have := HK2.out; have := HK3.out; have := HJ18.out; have := HJ48.out; have := HJ64.out; omega
                                                              case rel => exact ⟨(wrap64 (x8_3 + ((rd_T55 t419 x10_2).f2))), (x9_3), (wrap64 (x10_2 + 1)), (by first | rfl | (simp; done) | (simp [*]; done)), (by first | rfl | (simp; done) | (simp [*]; done)), (by first | rfl | (simp; done) | (simp [*]; done)), H', ⟨by have := HJ4.out; have := HK2.out; have := HK3.out; have := HJ18.out; have := HJ48.out; have := HJ64.out; omega⟩, ⟨by (with_reducible repeat (first | apply Kd.R_alloc | apply Kd.R_drewN | apply Kd.R_drew)); exact HO_4.out⟩, ⟨by (with_reducible repeat (first | apply Kd.R_alloc | apply Kd.R_drewN | apply Kd.R_drew)); exact HO_6.out⟩, ⟨by repeat (first | (with_reducible first | exact HB.out | apply below_alloc | apply pw_below_drewN | apply below_drew1) | exact HB.out)⟩⟩
                                                            · rw [if_neg c75] at H
                                                              have c75b0 : (((rd_T55 t419 x10_2).f2) == 3) = false := beq_eq_false_iff_ne.mpr c75
                                                              have c75b1 : (((rd_T55 t419 x10_2).f2) != 3) = true := bne_iff_ne.mpr c75
                                                              obtain rfl := Option.some.inj H
                                                              have p439 : 0 ≤ (x10_2 : Int) := of_decide_eq_true (by first | (with_reducible assumption) | assumption)
                                                              have q439 : x10_2 < (t419.length : Int) := of_decide_eq_true (by first | (with_reducible assumption) | assumption)
                                                              obtain ⟨ad439, e439, hx439_0, hx439_1, hx439_2⟩ := at_T55 (Kd.R_reads' HO_4.out).2.2 x10_2 p439 q439
                                                              obtain rfl : ad436 = ad439 := (by injection e439)
                                                              replace p439 := eq_true p439
                                                              replace q439 := eq_true q439
                                                              have p440 : 0 ≤ (x10_2 : Int) := of_decide_eq_true (by first | (with_reducible assumption) | assumption)
                                                              have q440 : x10_2 < (t419.length : Int) := of_decide_eq_true (by first | (with_reducible assumption) | assumption)
                                                              obtain ⟨ad440, e440, hx440_0, hx440_1, hx440_2⟩ := at_T55 (Kd.R_reads' HO_4.out).2.2 x10_2 p440 q440
                                                              obtain rfl : ad436 = ad440 := (by injection e440)
                                                              replace p440 := eq_true p440
                                                              replace q440 := eq_true q440
                                                              have p442 : 0 ≤ (x10_2 : Int) := of_decide_eq_true (by first | (with_reducible assumption) | assumption)
                                                              have q442 : x10_2 < (t419.length : Int) := of_decide_eq_true (by first | (with_reducible assumption) | assumption)
                                                              obtain ⟨ad442, e442, hx442_0, hx442_1, hx442_2⟩ := at_T55 (Kd.R_reads' HO_4.out).2.2 x10_2 p442 q442
                                                              obtain rfl : ad436 = ad442 := (by injection e442)
                                                              replace p442 := eq_true p442
                                                              replace q442 := eq_true q442
                                                              go_wp2
                                                              repeat (go_quiet (fail); try go_wp2)
                                                              go_ret
                                                              exact ⟨by first | rfl | (simp [errW_none, errW_some] <;> rfl) | (simp only [← hji60]; first | rfl | (simp [errW_none, errW_some] <;> rfl)) | (simp [*, errW_none, errW_some] <;> rfl), by repeat (first | (with_reducible first | exact HB.out | apply below_alloc | apply pw_below_drewN | apply below_drew1) | exact HB.out)⟩
                                                        · rw [if_neg c73] at H
                                                          have c73b0 : (((rd_T55 t419 x10_2).f0) == t437) = false := beq_eq_false_iff_ne.mpr c73
                                                          have c73b1 : (((rd_T55 t419 x10_2).f0) != t437) = true := bne_iff_ne.mpr c73
                                                          obtain rfl := Option.some.inj H
                                                          have p439 : 0 ≤ (x10_2 : Int) := of_decide_eq_true (by first | (with_reducible assumption) | assumption)
                                                          have q439 : x10_2 < (t419.length : Int) := of_decide_eq_true (by first | (with_reducible assumption) | assumption)
                                                          obtain ⟨ad439, e439, hx439_0, hx439_1, hx439_2⟩ := at_T55 (Kd.R_reads' HO_4.out).2.2 x10_2 p439 q439
                                                          obtain rfl : ad436 = ad439 := (by injection e439)
                                                          replace p439 := eq_true p439
                                                          replace q439 := eq_true q439
                                                          go_wp2
                                                          repeat (go_quiet (fail); try go_wp2)
                                                          go_ret
                                                          exact ⟨by first | rfl | (simp [errW_none, errW_some] <;> rfl) | (simp only [← hji60]; first | rfl | (simp [errW_none, errW_some] <;> rfl)) | (simp [*, errW_none, errW_some] <;> rfl), by repeat (first | (with_reducible first | exact HB.out | apply below_alloc | apply pw_below_drewN | apply below_drew1) | exact HB.out)⟩
                                                      · rw [if_neg c72] at H
                                                        exact absurd H (by simp)
                                                    · rw [if_neg c71] at H
                                                      exact absurd H (by simp)
                                            · rw [if_neg c62] at H
                                              exact absurd H (by simp)
                                          · rw [if_neg c61] at H
                                            exact absurd H (by simp)
                                        · rw [if_neg c59] at H
                                          have c59b0 : (((rd_T55 t419 x10_2).f2) == 3) = false := beq_eq_false_iff_ne.mpr c59
                                          have c59b1 : (((rd_T55 t419 x10_2).f2) != 3) = true := bne_iff_ne.mpr c59
                                          by_cases c76 : ((rd_T55 t419 x10_2).f0) = (bt a0 x8_3)
                                          · rw [if_pos c76] at H
                                            have c76b0 : (((rd_T55 t419 x10_2).f0) == (bt a0 x8_3)) = true := beq_iff_eq.mpr c76
                                            have c76b1 : (((rd_T55 t419 x10_2).f0) != (bt a0 x8_3)) = false := bne_eq_false_iff_eq.mpr c76
                                            clear c76
                                            by_cases c77 : ((rd_T55 t419 x10_2).f2) = 1
                                            · rw [if_pos c77] at H
                                              have c77b0 : (((rd_T55 t419 x10_2).f2) == 1) = true := beq_iff_eq.mpr c77
                                              have c77b1 : (((rd_T55 t419 x10_2).f2) != 1) = false := bne_eq_false_iff_eq.mpr c77
                                              clear c77
                                              have H' := Aside0.mk H
                                              clear H
                                              have p56 : 0 ≤ (x8_3 : Int) := of_decide_eq_true (by first | (with_reducible assumption) | assumption)
                                              have q56 : x8_3 < (a0.size : Int) := of_decide_eq_true (by first | (with_reducible assumption) | assumption)
                                              have hx56 := bt_at a0 x8_3
                                              replace p56 := eq_true p56
                                              replace q56 := eq_true q56
                                              have p436 : 0 ≤ (x10_2 : Int) := of_decide_eq_true (by first | (with_reducible assumption) | assumption)
                                              have q436 : x10_2 < (t419.length : Int) := of_decide_eq_true (by first | (with_reducible assumption) | assumption)
                                              obtain ⟨ad436, e436, hx436_0, hx436_1, hx436_2⟩ := at_T55 (Kd.R_reads' HO_4.out).2.2 x10_2 p436 q436
                                              cases e436
                                              replace p436 := eq_true p436
                                              replace q436 := eq_true q436
                                              have p444 : 0 ≤ (x10_2 : Int) := of_decide_eq_true (by first | (with_reducible assumption) | assumption)
                                              have q444 : x10_2 < (t419.length : Int) := of_decide_eq_true (by first | (with_reducible assumption) | assumption)
                                              obtain ⟨ad444, e444, hx444_0, hx444_1, hx444_2⟩ := at_T55 (Kd.R_reads' HO_4.out).2.2 x10_2 p444 q444
                                              obtain rfl : ad436 = ad444 := (by injection e444)
                                              replace p444 := eq_true p444
                                              replace q444 := eq_true q444
                                              have p445 : 0 ≤ (x10_2 : Int) := of_decide_eq_true (by first | (with_reducible assumption) | assumption)
                                              have q445 : x10_2 < (t419.length : Int) := of_decide_eq_true (by first | (with_reducible assumption) | assumption)
                                              obtain ⟨ad445, e445, hx445_0, hx445_1, hx445_2⟩ := at_T55 (Kd.R_reads' HO_4.out).2.2 x10_2 p445 q445
                                              obtain rfl : ad436 = ad445 := (by injection e445)
                                              replace p445 := eq_true p445
                                              replace q445 := eq_true q445
                                              have p446 : 0 ≤ (x10_2 : Int) := of_decide_eq_true (by first | (with_reducible assumption) | assumption)
                                              have q446 : x10_2 < (t419.length : Int) := of_decide_eq_true (by first | (with_reducible assumption) | assumption)
                                              obtain ⟨ad446, e446, hx446_0, hx446_1, hx446_2⟩ := at_T55 (Kd.R_reads' HO_4.out).2.2 x10_2 p446 q446
                                              obtain rfl : ad436 = ad446 := (by injection e446)
                                              replace p446 := eq_true p446
                                              replace q446 := eq_true q446
                                              go_wp2
                                              repeat (go_quiet (fail); try go_wp2)
                                              go_roundg kj48
                                              case measure => have := HJ4.out; have := HK2.out; have := HK3.out; have := HJ18.out; have := HJ48.out; omega
                                              case rel => exact ⟨(wrap64 (x8_3 + ((rd_T55 t419 x10_2).f2))), (x9_3), (wrap64 (x10_2 + 1)), (by first | rfl | (simp; done) | (simp [*]; done)), (by first | rfl | (simp; done) | (simp [*]; done)), (by first | rfl | (simp; done) | (simp [*]; done)), H', ⟨by have := HJ4.out; have := HK2.out; have := HK3.out; have := HJ18.out; have := HJ48.out; omega⟩, ⟨by (with_reducible repeat (first | apply Kd.R_alloc | apply Kd.R_drewN | apply Kd.R_drew)); exact HO_4.out⟩, ⟨by (with_reducible repeat (first | apply Kd.R_alloc | apply Kd.R_drewN | apply Kd.R_drew)); exact HO_6.out⟩, ⟨by repeat (first | (with_reducible first | exact HB.out | apply below_alloc | apply pw_below_drewN | apply below_drew1) | exact HB.out)⟩⟩
                                            · rw [if_neg c77] at H
                                              have c77b0 : (((rd_T55 t419 x10_2).f2) == 1) = false := beq_eq_false_iff_ne.mpr c77
                                              have c77b1 : (((rd_T55 t419 x10_2).f2) != 1) = true := bne_iff_ne.mpr c77
                                              obtain rfl := Option.some.inj H
                                              have p56 : 0 ≤ (x8_3 : Int) := of_decide_eq_true (by first | (with_reducible assumption) | assumption)
                                              have q56 : x8_3 < (a0.size : Int) := of_decide_eq_true (by first | (with_reducible assumption) | assumption)
                                              have hx56 := bt_at a0 x8_3
                                              replace p56 := eq_true p56
                                              replace q56 := eq_true q56
                                              have p436 : 0 ≤ (x10_2 : Int) := of_decide_eq_true (by first | (with_reducible assumption) | assumption)
                                              have q436 : x10_2 < (t419.length : Int) := of_decide_eq_true (by first | (with_reducible assumption) | assumption)
                                              obtain ⟨ad436, e436, hx436_0, hx436_1, hx436_2⟩ := at_T55 (Kd.R_reads' HO_4.out).2.2 x10_2 p436 q436
                                              cases e436
                                              replace p436 := eq_true p436
                                              replace q436 := eq_true q436
                                              have p444 : 0 ≤ (x10_2 : Int) := of_decide_eq_true (by first | (with_reducible assumption) | assumption)
                                              have q444 : x10_2 < (t419.length : Int) := of_decide_eq_true (by first | (with_reducible assumption) | assumption)
                                              obtain ⟨ad444, e444, hx444_0, hx444_1, hx444_2⟩ := at_T55 (Kd.R_reads' HO_4.out).2.2 x10_2 p444 q444
                                              obtain rfl : ad436 = ad444 := (by injection e444)
                                              replace p444 := eq_true p444
                                              replace q444 := eq_true q444
                                              have p445 : 0 ≤ (x10_2 : Int) := of_decide_eq_true (by first | (with_reducible assumption) | assumption)
                                              have q445 : x10_2 < (t419.length : Int) := of_decide_eq_true (by first | (with_reducible assumption) | assumption)
                                              obtain ⟨ad445, e445, hx445_0, hx445_1, hx445_2⟩ := at_T55 (Kd.R_reads' HO_4.out).2.2 x10_2 p445 q445
                                              obtain rfl : ad436 = ad445 := (by injection e445)
                                              replace p445 := eq_true p445
                                              replace q445 := eq_true q445
                                              have p447 : 0 ≤ (x10_2 : Int) := of_decide_eq_true (by first | (with_reducible assumption) | assumption)
                                              have q447 : x10_2 < (t419.length : Int) := of_decide_eq_true (by first | (with_reducible assumption) | assumption)
                                              obtain ⟨ad447, e447, hx447_0, hx447_1, hx447_2⟩ := at_T55 (Kd.R_reads' HO_4.out).2.2 x10_2 p447 q447
                                              obtain rfl : ad436 = ad447 := (by injection e447)
                                              replace p447 := eq_true p447
                                              replace q447 := eq_true q447
                                              go_wp2
                                              repeat (go_quiet (fail); try go_wp2)
                                              go_ret
                                              exact ⟨by first | rfl | (simp [errW_none, errW_some] <;> rfl) | (simp [*, errW_none, errW_some] <;> rfl), by repeat (first | (with_reducible first | exact HB.out | apply below_alloc | apply pw_below_drewN | apply below_drew1) | exact HB.out)⟩
                                          · rw [if_neg c76] at H
                                            have c76b0 : (((rd_T55 t419 x10_2).f0) == (bt a0 x8_3)) = false := beq_eq_false_iff_ne.mpr c76
                                            have c76b1 : (((rd_T55 t419 x10_2).f0) != (bt a0 x8_3)) = true := bne_iff_ne.mpr c76
                                            obtain rfl := Option.some.inj H
                                            have p56 : 0 ≤ (x8_3 : Int) := of_decide_eq_true (by first | (with_reducible assumption) | assumption)
                                            have q56 : x8_3 < (a0.size : Int) := of_decide_eq_true (by first | (with_reducible assumption) | assumption)
                                            have hx56 := bt_at a0 x8_3
                                            replace p56 := eq_true p56
                                            replace q56 := eq_true q56
                                            have p436 : 0 ≤ (x10_2 : Int) := of_decide_eq_true (by first | (with_reducible assumption) | assumption)
                                            have q436 : x10_2 < (t419.length : Int) := of_decide_eq_true (by first | (with_reducible assumption) | assumption)
                                            obtain ⟨ad436, e436, hx436_0, hx436_1, hx436_2⟩ := at_T55 (Kd.R_reads' HO_4.out).2.2 x10_2 p436 q436
                                            cases e436
                                            replace p436 := eq_true p436
                                            replace q436 := eq_true q436
                                            have p444 : 0 ≤ (x10_2 : Int) := of_decide_eq_true (by first | (with_reducible assumption) | assumption)
                                            have q444 : x10_2 < (t419.length : Int) := of_decide_eq_true (by first | (with_reducible assumption) | assumption)
                                            obtain ⟨ad444, e444, hx444_0, hx444_1, hx444_2⟩ := at_T55 (Kd.R_reads' HO_4.out).2.2 x10_2 p444 q444
                                            obtain rfl : ad436 = ad444 := (by injection e444)
                                            replace p444 := eq_true p444
                                            replace q444 := eq_true q444
                                            go_wp2
                                            repeat (go_quiet (fail); try go_wp2)
                                            go_ret
                                            exact ⟨by first | rfl | (simp [errW_none, errW_some] <;> rfl) | (simp [*, errW_none, errW_some] <;> rfl), by repeat (first | (with_reducible first | exact HB.out | apply below_alloc | apply pw_below_drewN | apply below_drew1) | exact HB.out)⟩
                                      · rw [if_neg c58] at H
                                        exact absurd H (by simp)
                                    · rw [if_neg c57] at H
                                      exact absurd H (by simp)
                                  · rw [if_neg c55] at H
                                    exact absurd H (by simp)
                                · rw [if_neg c54] at H
                                  exact absurd H (by simp)
            · rw [if_neg c17] at H
              have c17b0 : decide (x10_2 ≤ (t419.length : Int)) = false := decide_eq_false c17
              clear c17
              by_cases c78 : x8_2 = (a0.size : Int)
              · rw [if_pos c78] at H
                have c78b0 : (x8_2 == (a0.size : Int)) = true := beq_iff_eq.mpr c78
                have c78b1 : (x8_2 != (a0.size : Int)) = false := bne_eq_false_iff_eq.mpr c78
                clear c78
                by_cases c79 : x9_2 = (t423.length : Int)
                · rw [if_pos c79] at H
                  have c79b0 : (x9_2 == (t423.length : Int)) = true := beq_iff_eq.mpr c79
                  have c79b1 : (x9_2 != (t423.length : Int)) = false := bne_eq_false_iff_eq.mpr c79
                  clear c79
                  obtain rfl := Option.some.inj H
                  obtain ⟨Ao80, co80, eo80⟩ := Kd.R_slice HO_4.out
                  subst eo80
                  obtain ⟨Ao81, co81, eo81⟩ := Kd.R_slice HO_6.out
                  subst eo81
                  go_wp2
                  repeat (go_quiet (fail); try go_wp2)
                  go_ret
                  exact ⟨by first | rfl | (simp [errW_none, errW_some] <;> rfl) | (simp [*, errW_none, errW_some] <;> rfl), by repeat (first | (with_reducible first | exact HB.out | apply below_alloc | apply pw_below_drewN | apply below_drew1) | exact HB.out)⟩
                · rw [if_neg c79] at H
                  have c79b0 : (x9_2 == (t423.length : Int)) = false := beq_eq_false_iff_ne.mpr c79
                  have c79b1 : (x9_2 != (t423.length : Int)) = true := bne_iff_ne.mpr c79
                  obtain rfl := Option.some.inj H
                  obtain ⟨Ao82, co82, eo82⟩ := Kd.R_slice HO_4.out
                  subst eo82
                  obtain ⟨Ao83, co83, eo83⟩ := Kd.R_slice HO_6.out
                  subst eo83
                  go_wp2
                  repeat (go_quiet (fail); try go_wp2)
                  go_ret
                  exact ⟨by first | rfl | (simp [errW_none, errW_some] <;> rfl) | (simp [*, errW_none, errW_some] <;> rfl), by repeat (first | (with_reducible first | exact HB.out | apply below_alloc | apply pw_below_drewN | apply below_drew1) | exact HB.out)⟩
              · rw [if_neg c78] at H
                have c78b0 : (x8_2 == (a0.size : Int)) = false := beq_eq_false_iff_ne.mpr c78
                have c78b1 : (x8_2 != (a0.size : Int)) = true := bne_iff_ne.mpr c78
                obtain rfl := Option.some.inj H
                obtain ⟨Ao84, co84, eo84⟩ := Kd.R_slice HO_4.out
                subst eo84
                go_wp2
                repeat (go_quiet (fail); try go_wp2)
                go_ret
                exact ⟨by first | rfl | (simp [errW_none, errW_some] <;> rfl) | (simp [*, errW_none, errW_some] <;> rfl), by repeat (first | (with_reducible first | exact HB.out | apply below_alloc | apply pw_below_drewN | apply below_drew1) | exact HB.out)⟩

/-- THE ONE PURE STATEMENT of regletlaw01_PhysCovers: yours. -/
def regletlaw01_PhysCovers.Pure : Prop := ∀ (a0 : ByteArray), a0.size ≤ 140737488351232 → ∃ k, regletlaw01_PhysCovers.f k a0 = some true
theorem regletlaw01_PhysCovers.walk (P : regletlaw01_PhysCovers.Pure) (a0 : ByteArray) (w : World) (w0 : a0.size ≤ 140737488351232) :
    Calls Try.prog 10 #[.string a0] w fun e w' => e = .returned (.bool true) ∧ Below w.heap.size w w' := by
  obtain ⟨k, h⟩ := P a0 w0
  refine (regletlaw01_PhysCovers.calls k a0 true w h).mono ?_
  rintro e w' ⟨rfl, hd⟩
  exact ⟨rfl, hd⟩

end Go.Proofs.Ytonfmnohmigjpaa.P
