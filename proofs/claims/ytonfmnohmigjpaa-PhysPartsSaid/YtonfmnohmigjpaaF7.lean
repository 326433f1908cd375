-- Written by wip/pr.py (the kit's printer, driven for functions that are proved by hand beside it).
import Derived.Test.YtonfmnohmigjpaaF0
import Derived.Test.YtonfmnohmigjpaaF40
import Derived.Test.YtonfmnohmigjpaaFA
import Derived.Test.YtonfmnohmigjpaaG41
namespace Go.Proofs.Ytonfmnohmigjpaa.P
open Go.RowKit Go.Proofs.YtonfmnohmigjpaaW.PrintWords Go.Proofs.YtonfmnohmigjpaaW.PrintLast Go.Proofs.YtonfmnohmigjpaaW.PrintMore
attribute [local go_sem] max2_int min2_int max_two min_two max_three min_three max_four min_four   -- for this text's walks alone
set_option linter.unusedVariables false
set_option linter.unusedSimpArgs false

attribute [local go_sem high] eqA55
/-! ### regletlaw01_PhysParts: function 7 -/
mutual
def regletlaw01_PhysParts.j0 : Nat → ByteArray → Bool → List (S55) → Int → List (S55) → List (S55) → Int → Bool → Option (Bool)
  | 0, _, _, _, _, _, _, _, _ => none
  | k + 1, x0, x5, x6, x7, x8, x10, x11, x44 => if x44 = true then (if x5 = true then (if x7 = 0 then (some true) else (some ((x6.length : Int) == 0))) else (some false)) else (if x11 = 0 then (regletlaw01_PhysParts.j1 k x0 x5 x6 x8 x10 ((x10.length : Int) != (wrap64 ((x6.length : Int) + (x8.length : Int))))) else (regletlaw01_PhysParts.j1 k x0 x5 x6 x8 x10 true))
def regletlaw01_PhysParts.j1 : Nat → ByteArray → Bool → List (S55) → List (S55) → List (S55) → Bool → Option (Bool)
  | 0, _, _, _, _, _, _ => none
  | k + 1, x0, x5, x6, x8, x10, x66 => if x66 = true then (some false) else (regletlaw01_PhysParts.l0 k x0 x5 x6 x8 x10 0)
def regletlaw01_PhysParts.l0 : Nat → ByteArray → Bool → List (S55) → List (S55) → List (S55) → Int → Option (Bool)
  | 0, _, _, _, _, _, _ => none
  | k + 1, x0, x5, x6, x8, x10, x12 => if x12 < (x10.length : Int) then (if x12 < (x6.length : Int) then (if 0 ≤ x12 then (if (!(((rd_T55 x10 x12).f0) == ((rd_T55 x6 x12).f0)) || (!(((rd_T55 x10 x12).f1) == ((rd_T55 x6 x12).f1)) || (!(((rd_T55 x10 x12).f2) == ((rd_T55 x6 x12).f2))))) = true then (some false) else (if x12 ≥ (x6.length : Int) then (if 0 ≤ (wrap64 (x12 - (x6.length : Int))) then (if (wrap64 (x12 - (x6.length : Int))) < (x8.length : Int) then (if (!(((rd_T55 x10 x12).f0) == ((rd_T55 x8 (wrap64 (x12 - (x6.length : Int)))).f0)) || (!(((rd_T55 x10 x12).f1) == (wrap64 (((rd_T55 x8 (wrap64 (x12 - (x6.length : Int)))).f1) + (x0.size : Int)))) || (!(((rd_T55 x10 x12).f2) == ((rd_T55 x8 (wrap64 (x12 - (x6.length : Int)))).f2))))) = true then (some false) else (regletlaw01_PhysParts.l0 k x0 x5 x6 x8 x10 (wrap64 (x12 + 1)))) else (none)) else (none)) else (regletlaw01_PhysParts.l0 k x0 x5 x6 x8 x10 (wrap64 (x12 + 1))))) else (none)) else (if x12 ≥ (x6.length : Int) then (if 0 ≤ x12 then (if 0 ≤ (wrap64 (x12 - (x6.length : Int))) then (if (wrap64 (x12 - (x6.length : Int))) < (x8.length : Int) then (if (!(((rd_T55 x10 x12).f0) == ((rd_T55 x8 (wrap64 (x12 - (x6.length : Int)))).f0)) || (!(((rd_T55 x10 x12).f1) == (wrap64 (((rd_T55 x8 (wrap64 (x12 - (x6.length : Int)))).f1) + (x0.size : Int)))) || (!(((rd_T55 x10 x12).f2) == ((rd_T55 x8 (wrap64 (x12 - (x6.length : Int)))).f2))))) = true then (some false) else (regletlaw01_PhysParts.l0 k x0 x5 x6 x8 x10 (wrap64 (x12 + 1)))) else (none)) else (none)) else (none)) else (regletlaw01_PhysParts.l0 k x0 x5 x6 x8 x10 (wrap64 (x12 + 1))))) else (some x5)
end
def regletlaw01_PhysParts.f (k : Nat) (a0 : ByteArray) (a1 : ByteArray) : Option (Bool) := (regletlaw01_alive.f).bind fun t345 => ((phys_Chars.f a0).bind fun bt346 => ((phys_Chars.f a1).bind fun bt350 => (if a0.size + a1.size ≤ 9223372036854775807 then ((phys_Chars.f (a0 ++ a1)).bind fun bt354 => (if bt346.2 = 0 then (if bt350.2 = 0 then (regletlaw01_PhysParts.j0 k a0 t345 bt346.1 bt346.2 bt350.1 bt354.1 bt354.2 (decide ((wrap64 ((a0.size : Int) + (a1.size : Int))) > 65536))) else (regletlaw01_PhysParts.j0 k a0 t345 bt346.1 bt346.2 bt350.1 bt354.1 bt354.2 true)) else (regletlaw01_PhysParts.j0 k a0 t345 bt346.1 bt346.2 bt350.1 bt354.1 bt354.2 true))) else (none))))
theorem regletlaw01_PhysParts.mono_l : ∀ k, (∀ y0 y1 y2 y3 y4 y5 y6 y7, LeO (regletlaw01_PhysParts.j0 k y0 y1 y2 y3 y4 y5 y6 y7) (regletlaw01_PhysParts.j0 (k + 1) y0 y1 y2 y3 y4 y5 y6 y7)) ∧ (∀ y0 y1 y2 y3 y4 y5, LeO (regletlaw01_PhysParts.j1 k y0 y1 y2 y3 y4 y5) (regletlaw01_PhysParts.j1 (k + 1) y0 y1 y2 y3 y4 y5)) ∧ (∀ y0 y1 y2 y3 y4 y5, LeO (regletlaw01_PhysParts.l0 k y0 y1 y2 y3 y4 y5) (regletlaw01_PhysParts.l0 (k + 1) y0 y1 y2 y3 y4 y5))
  | 0 => ⟨fun _ _ _ _ _ _ _ _ r h => by simp [regletlaw01_PhysParts.j0] at h, fun _ _ _ _ _ _ r h => by simp [regletlaw01_PhysParts.j1] at h, fun _ _ _ _ _ _ r h => by simp [regletlaw01_PhysParts.l0] at h⟩
  | k + 1 => by
    obtain ⟨ih0, ih1, ih2⟩ := regletlaw01_PhysParts.mono_l k
    refine ⟨?_, ?_, ?_⟩
    · intro y0 y1 y2 y3 y4 y5 y6 y7
      unfold regletlaw01_PhysParts.j0
      repeat' first
      | (with_reducible exact ih0 _ _ _ _ _ _ _ _)
      | (with_reducible exact ih1 _ _ _ _ _ _)
      | (with_reducible exact ih2 _ _ _ _ _ _)
      | (with_reducible exact LeO.refl _)
      | (with_reducible exact LeO.none _)
      | (with_reducible refine LeO.ite ?_ ?_)
      | (with_reducible refine LeO.bind ?_ (fun _ => ?_))
      | exact ih0 _ _ _ _ _ _ _ _
      | exact ih1 _ _ _ _ _ _
      | exact ih2 _ _ _ _ _ _
      | exact LeO.none _
      | refine LeO.ite ?_ ?_
      | refine LeO.bind ?_ (fun _ => ?_)
    · intro y0 y1 y2 y3 y4 y5
      unfold regletlaw01_PhysParts.j1
      repeat' first
      | (with_reducible exact ih0 _ _ _ _ _ _ _ _)
      | (with_reducible exact ih1 _ _ _ _ _ _)
      | (with_reducible exact ih2 _ _ _ _ _ _)
      | (with_reducible exact LeO.refl _)
      | (with_reducible exact LeO.none _)
      | (with_reducible refine LeO.ite ?_ ?_)
      | (with_reducible refine LeO.bind ?_ (fun _ => ?_))
      | exact ih0 _ _ _ _ _ _ _ _
      | exact ih1 _ _ _ _ _ _
      | exact ih2 _ _ _ _ _ _
      | exact LeO.none _
      | refine LeO.ite ?_ ?_
      | refine LeO.bind ?_ (fun _ => ?_)
    · intro y0 y1 y2 y3 y4 y5
      unfold regletlaw01_PhysParts.l0
      repeat' first
      | (with_reducible exact ih0 _ _ _ _ _ _ _ _)
      | (with_reducible exact ih1 _ _ _ _ _ _)
      | (with_reducible exact ih2 _ _ _ _ _ _)
      | (with_reducible exact LeO.refl _)
      | (with_reducible exact LeO.none _)
      | (with_reducible refine LeO.ite ?_ ?_)
      | (with_reducible refine LeO.bind ?_ (fun _ => ?_))
      | exact ih0 _ _ _ _ _ _ _ _
      | exact ih1 _ _ _ _ _ _
      | exact ih2 _ _ _ _ _ _
      | exact LeO.none _
      | refine LeO.ite ?_ ?_
      | refine LeO.bind ?_ (fun _ => ?_)
theorem regletlaw01_PhysParts.mono : ∀ a0 a1 k, LeO (regletlaw01_PhysParts.f k a0 a1) (regletlaw01_PhysParts.f (k + 1) a0 a1) := by
  intro a0 a1 k
  obtain ⟨ih0, ih1, ih2⟩ := regletlaw01_PhysParts.mono_l k
  unfold regletlaw01_PhysParts.f
  repeat' first
      | (with_reducible exact ih0 _ _ _ _ _ _ _ _)
      | (with_reducible exact ih1 _ _ _ _ _ _)
      | (with_reducible exact ih2 _ _ _ _ _ _)
      | (with_reducible exact LeO.refl _)
      | (with_reducible exact LeO.none _)
      | (with_reducible refine LeO.ite ?_ ?_)
      | (with_reducible refine LeO.bind ?_ (fun _ => ?_))
      | exact ih0 _ _ _ _ _ _ _ _
      | exact ih1 _ _ _ _ _ _
      | exact ih2 _ _ _ _ _ _
      | exact LeO.none _
      | refine LeO.ite ?_ ?_
      | refine LeO.bind ?_ (fun _ => ?_)
set_option maxHeartbeats 8000000 in
set_option maxRecDepth 100000 in
theorem regletlaw01_PhysParts.calls (k : Nat) (a0 : ByteArray) (a1 : ByteArray) (r : Bool) (w : World) (h : regletlaw01_PhysParts.f k a0 a1 = some r) :
    Calls Try.prog 7 #[.string a0, .string a1] w fun e w' => e = .returned (.bool r) ∧ Below w.heap.size w w' := by
  have hu55 := Try.underlying55
  have HB := Aside0.mk (Below.refl w.heap.size w)
  have H : ((regletlaw01_alive.f).bind fun t345 => ((phys_Chars.f a0).bind fun bt346 => ((phys_Chars.f a1).bind fun bt350 => (if a0.size + a1.size ≤ 9223372036854775807 then ((phys_Chars.f (a0 ++ a1)).bind fun bt354 => (if bt346.2 = 0 then (if bt350.2 = 0 then (regletlaw01_PhysParts.j0 k a0 t345 bt346.1 bt346.2 bt350.1 bt354.1 bt354.2 (decide ((wrap64 ((a0.size : Int) + (a1.size : Int))) > 65536))) else (regletlaw01_PhysParts.j0 k a0 t345 bt346.1 bt346.2 bt350.1 bt354.1 bt354.2 true)) else (regletlaw01_PhysParts.j0 k a0 t345 bt346.1 bt346.2 bt350.1 bt354.1 bt354.2 true))) else (none))))) = some r := h
  clear h
  replace H := Option.bind_eq_some_iff.mp H
  obtain ⟨t345, A30, H⟩ := H
  replace H : ((phys_Chars.f a0).bind fun bt346 => ((phys_Chars.f a1).bind fun bt350 => (if a0.size + a1.size ≤ 9223372036854775807 then ((phys_Chars.f (a0 ++ a1)).bind fun bt354 => (if bt346.2 = 0 then (if bt350.2 = 0 then (regletlaw01_PhysParts.j0 k a0 t345 bt346.1 bt346.2 bt350.1 bt354.1 bt354.2 (decide ((wrap64 ((a0.size : Int) + (a1.size : Int))) > 65536))) else (regletlaw01_PhysParts.j0 k a0 t345 bt346.1 bt346.2 bt350.1 bt354.1 bt354.2 true)) else (regletlaw01_PhysParts.j0 k a0 t345 bt346.1 bt346.2 bt350.1 bt354.1 bt354.2 true))) else (none)))) = some r := H
  have A3 := Aside0.mk A30
  clear A30
  replace H := Option.bind_eq_some_iff.mp H
  obtain ⟨⟨t346, t347⟩, A40, H⟩ := H
  replace H : ((phys_Chars.f a1).bind fun bt350 => (if a0.size + a1.size ≤ 9223372036854775807 then ((phys_Chars.f (a0 ++ a1)).bind fun bt354 => (if t347 = 0 then (if bt350.2 = 0 then (regletlaw01_PhysParts.j0 k a0 t345 t346 t347 bt350.1 bt354.1 bt354.2 (decide ((wrap64 ((a0.size : Int) + (a1.size : Int))) > 65536))) else (regletlaw01_PhysParts.j0 k a0 t345 t346 t347 bt350.1 bt354.1 bt354.2 true)) else (regletlaw01_PhysParts.j0 k a0 t345 t346 t347 bt350.1 bt354.1 bt354.2 true))) else (none))) = some r := H
  have A4 := Aside0.mk A40
  clear A40
  replace H := Option.bind_eq_some_iff.mp H
  obtain ⟨⟨t350, t351⟩, A50, H⟩ := H
  replace H : (if a0.size + a1.size ≤ 9223372036854775807 then ((phys_Chars.f (a0 ++ a1)).bind fun bt354 => (if t347 = 0 then (if t351 = 0 then (regletlaw01_PhysParts.j0 k a0 t345 t346 t347 t350 bt354.1 bt354.2 (decide ((wrap64 ((a0.size : Int) + (a1.size : Int))) > 65536))) else (regletlaw01_PhysParts.j0 k a0 t345 t346 t347 t350 bt354.1 bt354.2 true)) else (regletlaw01_PhysParts.j0 k a0 t345 t346 t347 t350 bt354.1 bt354.2 true))) else (none)) = some r := H
  have A5 := Aside0.mk A50
  clear A50
  by_cases c6 : a0.size + a1.size ≤ 9223372036854775807
  · rw [if_pos c6] at H
    have c6b0 := eq_true c6
    have c6b1 : decide (a0.size + a1.size ≤ 9223372036854775807) = true := decide_eq_true c6
    try have c6b2 : (9223372036854775807 < a0.size + a1.size) = False := eq_false (Nat.not_lt.2 c6)
    replace H := Option.bind_eq_some_iff.mp H
    obtain ⟨⟨t354, t355⟩, A70, H⟩ := H
    replace H : (if t347 = 0 then (if t351 = 0 then (regletlaw01_PhysParts.j0 k a0 t345 t346 t347 t350 t354 t355 (decide ((wrap64 ((a0.size : Int) + (a1.size : Int))) > 65536))) else (regletlaw01_PhysParts.j0 k a0 t345 t346 t347 t350 t354 t355 true)) else (regletlaw01_PhysParts.j0 k a0 t345 t346 t347 t350 t354 t355 true)) = some r := H
    have A7 := Aside0.mk A70
    clear A70
    have HC8 := Aside0.mk H
    clear H
    go_enter Try.func7, Try.ntmps7
    go_upto_region 5 with (first | (go_at_call 40; (with_reducible refine (regletlaw01_alive.calls  t345 _ A3.out).mono ?_); rintro e w9 ⟨rfl, hb⟩; have n0_ := Aside0.mk (below_step (by repeat (first | (with_reducible first | exact HB.out | apply below_alloc | apply pw_below_drewN | apply below_drew1) | exact HB.out)) hb); clear HB; have HB := n0_; clear n0_; (try clear hb); (try clear hb2); (try clear hk); (try clear hi)) | (go_at_call 41; (with_reducible refine (phys_Chars.calls a0 t346 t347 _ A4.out).mono ?_); rintro e w10 ⟨v348, rfl, ho0, hb⟩; have n0_ := Aside0.mk (Kd.R_lower ho0 (below_size (by repeat (first | (with_reducible first | exact HB.out | apply below_alloc | apply pw_below_drewN | apply below_drew1) | exact HB.out)))); have n1_ := Aside0.mk (below_step (by repeat (first | (with_reducible first | exact HB.out | apply below_alloc | apply pw_below_drewN | apply below_drew1) | exact HB.out)) hb); clear HB; have HO349 := n0_; have HB := n1_; clear n0_ n1_; (try clear hb); (try clear hb2); (try clear hk); (try clear hi); (try clear ho0)) | (go_at_call 41; (with_reducible refine (phys_Chars.calls a1 t350 t351 _ A5.out).mono ?_); rintro e w11 ⟨v352, rfl, ho0, hb⟩; have n0_ := Aside0.mk (Kd.R_elder' (by (with_reducible repeat (first | apply Kd.R_alloc | apply Kd.R_drewN | apply Kd.R_drew)); exact HO349.out) (Kd.R_base ho0) hb); have n1_ := Aside0.mk (Kd.R_lower (Kd.R_new' ho0 (Kd.R_lt (by (with_reducible repeat (first | apply Kd.R_alloc | apply Kd.R_drewN | apply Kd.R_drew)); exact HO349.out))) (below_size (by repeat (first | (with_reducible first | exact HB.out | apply below_alloc | apply pw_below_drewN | apply below_drew1) | exact HB.out)))); have n2_ := Aside0.mk (below_step (by repeat (first | (with_reducible first | exact HB.out | apply below_alloc | apply pw_below_drewN | apply below_drew1) | exact HB.out)) hb); clear HO349; clear HB; have HO349 := n0_; have HO353 := n1_; have HB := n2_; clear n0_ n1_ n2_; (try clear hb); (try clear hb2); (try clear hk); (try clear hi); (try clear ho0)) | (go_at_call 41; (with_reducible refine (phys_Chars.calls (a0 ++ a1) t354 t355 _ A7.out).mono ?_); rintro e w12 ⟨v356, rfl, ho0, hb⟩; have n0_ := Aside0.mk (Kd.R_elder' (by (with_reducible repeat (first | apply Kd.R_alloc | apply Kd.R_drewN | apply Kd.R_drew)); exact HO349.out) (Kd.R_base ho0) hb); have n1_ := Aside0.mk (Kd.R_elder' (by (with_reducible repeat (first | apply Kd.R_alloc | apply Kd.R_drewN | apply Kd.R_drew)); exact HO353.out) (Kd.R_base ho0) hb); have n2_ := Aside0.mk (Kd.R_lower (Kd.R_new' (Kd.R_new' ho0 (Kd.R_lt (by (with_reducible repeat (first | apply Kd.R_alloc | apply Kd.R_drewN | apply Kd.R_drew)); exact HO349.out))) (Kd.R_lt (by (with_reducible repeat (first | apply Kd.R_alloc | apply Kd.R_drewN | apply Kd.R_drew)); exact HO353.out))) (below_size (by repeat (first | (with_reducible first | exact HB.out | apply below_alloc | apply pw_below_drewN | apply below_drew1) | exact HB.out)))); have n3_ := Aside0.mk (below_step (by repeat (first | (with_reducible first | exact HB.out | apply below_alloc | apply pw_below_drewN | apply below_drew1) | exact HB.out)) hb); clear HO349; clear HO353; clear HB; have HO349 := n0_; have HO353 := n1_; have HO357 := n2_; have HB := n3_; clear n0_ n1_ n2_ n3_; (try clear hb); (try clear hb2); (try clear hk); (try clear hi); (try clear ho0)))
    repeat (go_quiet (first | (go_at_call 40; (with_reducible refine (regletlaw01_alive.calls  t345 _ A3.out).mono ?_); rintro e w9 ⟨rfl, hb⟩; have n0_ := Aside0.mk (below_step (by repeat (first | (with_reducible first | exact HB.out | apply below_alloc | apply pw_below_drewN | apply below_drew1) | exact HB.out)) hb); clear HB; have HB := n0_; clear n0_; (try clear hb); (try clear hb2); (try clear hk); (try clear hi)) | (go_at_call 41; (with_reducible refine (phys_Chars.calls a0 t346 t347 _ A4.out).mono ?_); rintro e w10 ⟨v348, rfl, ho0, hb⟩; have n0_ := Aside0.mk (Kd.R_lower ho0 (below_size (by repeat (first | (with_reducible first | exact HB.out | apply below_alloc | apply pw_below_drewN | apply below_drew1) | exact HB.out)))); have n1_ := Aside0.mk (below_step (by repeat (first | (with_reducible first | exact HB.out | apply below_alloc | apply pw_below_drewN | apply below_drew1) | exact HB.out)) hb); clear HB; have HO349 := n0_; have HB := n1_; clear n0_ n1_; (try clear hb); (try clear hb2); (try clear hk); (try clear hi); (try clear ho0)) | (go_at_call 41; (with_reducible refine (phys_Chars.calls a1 t350 t351 _ A5.out).mono ?_); rintro e w11 ⟨v352, rfl, ho0, hb⟩; have n0_ := Aside0.mk (Kd.R_elder' (by (with_reducible repeat (first | apply Kd.R_alloc | apply Kd.R_drewN | apply Kd.R_drew)); exact HO349.out) (Kd.R_base ho0) hb); have n1_ := Aside0.mk (Kd.R_lower (Kd.R_new' ho0 (Kd.R_lt (by (with_reducible repeat (first | apply Kd.R_alloc | apply Kd.R_drewN | apply Kd.R_drew)); exact HO349.out))) (below_size (by repeat (first | (with_reducible first | exact HB.out | apply below_alloc | apply pw_below_drewN | apply below_drew1) | exact HB.out)))); have n2_ := Aside0.mk (below_step (by repeat (first | (with_reducible first | exact HB.out | apply below_alloc | apply pw_below_drewN | apply below_drew1) | exact HB.out)) hb); clear HO349; clear HB; have HO349 := n0_; have HO353 := n1_; have HB := n2_; clear n0_ n1_ n2_; (try clear hb); (try clear hb2); (try clear hk); (try clear hi); (try clear ho0)) | (go_at_call 41; (with_reducible refine (phys_Chars.calls (a0 ++ a1) t354 t355 _ A7.out).mono ?_); rintro e w12 ⟨v356, rfl, ho0, hb⟩; have n0_ := Aside0.mk (Kd.R_elder' (by (with_reducible repeat (first | apply Kd.R_alloc | apply Kd.R_drewN | apply Kd.R_drew)); exact HO349.out) (Kd.R_base ho0) hb); have n1_ := Aside0.mk (Kd.R_elder' (by (with_reducible repeat (first | apply Kd.R_alloc | apply Kd.R_drewN | apply Kd.R_drew)); exact HO353.out) (Kd.R_base ho0) hb); have n2_ := Aside0.mk (Kd.R_lower (Kd.R_new' (Kd.R_new' ho0 (Kd.R_lt (by (with_reducible repeat (first | apply Kd.R_alloc | apply Kd.R_drewN | apply Kd.R_drew)); exact HO349.out))) (Kd.R_lt (by (with_reducible repeat (first | apply Kd.R_alloc | apply Kd.R_drewN | apply Kd.R_drew)); exact HO353.out))) (below_size (by repeat (first | (with_reducible first | exact HB.out | apply below_alloc | apply pw_below_drewN | apply below_drew1) | exact HB.out)))); have n3_ := Aside0.mk (below_step (by repeat (first | (with_reducible first | exact HB.out | apply below_alloc | apply pw_below_drewN | apply below_drew1) | exact HB.out)) hb); clear HO349; clear HO353; clear HB; have HO349 := n0_; have HO353 := n1_; have HO357 := n2_; have HB := n3_; clear n0_ n1_ n2_ n3_; (try clear hb); (try clear hb2); (try clear hk); (try clear hi); (try clear ho0))); go_upto_region 5 with (first | (go_at_call 40; (with_reducible refine (regletlaw01_alive.calls  t345 _ A3.out).mono ?_); rintro e w9 ⟨rfl, hb⟩; have n0_ := Aside0.mk (below_step (by repeat (first | (with_reducible first | exact HB.out | apply below_alloc | apply pw_below_drewN | apply below_drew1) | exact HB.out)) hb); clear HB; have HB := n0_; clear n0_; (try clear hb); (try clear hb2); (try clear hk); (try clear hi)) | (go_at_call 41; (with_reducible refine (phys_Chars.calls a0 t346 t347 _ A4.out).mono ?_); rintro e w10 ⟨v348, rfl, ho0, hb⟩; have n0_ := Aside0.mk (Kd.R_lower ho0 (below_size (by repeat (first | (with_reducible first | exact HB.out | apply below_alloc | apply pw_below_drewN | apply below_drew1) | exact HB.out)))); have n1_ := Aside0.mk (below_step (by repeat (first | (with_reducible first | exact HB.out | apply below_alloc | apply pw_below_drewN | apply below_drew1) | exact HB.out)) hb); clear HB; have HO349 := n0_; have HB := n1_; clear n0_ n1_; (try clear hb); (try clear hb2); (try clear hk); (try clear hi); (try clear ho0)) | (go_at_call 41; (with_reducible refine (phys_Chars.calls a1 t350 t351 _ A5.out).mono ?_); rintro e w11 ⟨v352, rfl, ho0, hb⟩; have n0_ := Aside0.mk (Kd.R_elder' (by (with_reducible repeat (first | apply Kd.R_alloc | apply Kd.R_drewN | apply Kd.R_drew)); exact HO349.out) (Kd.R_base ho0) hb); have n1_ := Aside0.mk (Kd.R_lower (Kd.R_new' ho0 (Kd.R_lt (by (with_reducible repeat (first | apply Kd.R_alloc | apply Kd.R_drewN | apply Kd.R_drew)); exact HO349.out))) (below_size (by repeat (first | (with_reducible first | exact HB.out | apply below_alloc | apply pw_below_drewN | apply below_drew1) | exact HB.out)))); have n2_ := Aside0.mk (below_step (by repeat (first | (with_reducible first | exact HB.out | apply below_alloc | apply pw_below_drewN | apply below_drew1) | exact HB.out)) hb); clear HO349; clear HB; have HO349 := n0_; have HO353 := n1_; have HB := n2_; clear n0_ n1_ n2_; (try clear hb); (try clear hb2); (try clear hk); (try clear hi); (try clear ho0)) | (go_at_call 41; (with_reducible refine (phys_Chars.calls (a0 ++ a1) t354 t355 _ A7.out).mono ?_); rintro e w12 ⟨v356, rfl, ho0, hb⟩; have n0_ := Aside0.mk (Kd.R_elder' (by (with_reducible repeat (first | apply Kd.R_alloc | apply Kd.R_drewN | apply Kd.R_drew)); exact HO349.out) (Kd.R_base ho0) hb); have n1_ := Aside0.mk (Kd.R_elder' (by (with_reducible repeat (first | apply Kd.R_alloc | apply Kd.R_drewN | apply Kd.R_drew)); exact HO353.out) (Kd.R_base ho0) hb); have n2_ := Aside0.mk (Kd.R_lower (Kd.R_new' (Kd.R_new' ho0 (Kd.R_lt (by (with_reducible repeat (first | apply Kd.R_alloc | apply Kd.R_drewN | apply Kd.R_drew)); exact HO349.out))) (Kd.R_lt (by (with_reducible repeat (first | apply Kd.R_alloc | apply Kd.R_drewN | apply Kd.R_drew)); exact HO353.out))) (below_size (by repeat (first | (with_reducible first | exact HB.out | apply below_alloc | apply pw_below_drewN | apply below_drew1) | exact HB.out)))); have n3_ := Aside0.mk (below_step (by repeat (first | (with_reducible first | exact HB.out | apply below_alloc | apply pw_below_drewN | apply below_drew1) | exact HB.out)) hb); clear HO349; clear HO353; clear HB; have HO349 := n0_; have HO353 := n1_; have HO357 := n2_; have HB := n3_; clear n0_ n1_ n2_ n3_; (try clear hb); (try clear hb2); (try clear hk); (try clear hi); (try clear ho0))))
    (try simp only [Act.put, List.setIfInBounds_toArray, List.set_cons_zero, List.set_cons_succ])
    go_cut [44] (fun v44 wc => ∃ (kq : Nat) (x44_7 : Bool), v44 = .bool x44_7 ∧ Aside0 (regletlaw01_PhysParts.j0 kq a0 t345 t346 t347 t350 t354 t355 x44_7 = some r) ∧ Aside0 (kq ≤ k) ∧ Aside0 (Kd.R k55 55 wc w.heap.size (fun k_ => some k_ ≠ (v352 : Value).ownBlock ∧ some k_ ≠ (v356 : Value).ownBlock) v348 t346) ∧ Aside0 (Kd.R k55 55 wc w.heap.size (fun k_ => some k_ ≠ (v348 : Value).ownBlock ∧ some k_ ≠ (v356 : Value).ownBlock) v352 t350) ∧ Aside0 (Kd.R k55 55 wc w.heap.size (fun k_ => some k_ ≠ (v348 : Value).ownBlock ∧ some k_ ≠ (v352 : Value).ownBlock) v356 t354) ∧ Aside0 (Below w.heap.size w wc))
    case first =>
      have H := HC8.out
      clear HC8
      by_cases c13 : t347 = 0
      · rw [if_pos c13] at H
        have c13b0 : (t347 == 0) = true := beq_iff_eq.mpr c13
        have c13b1 : (t347 != 0) = false := bne_eq_false_iff_eq.mpr c13
        clear c13
        (first | rw [c13b0] | (simp only [i64_w, i32_w]; rw [c13b0]) | skip)
        by_cases c14 : t351 = 0
        · rw [if_pos c14] at H
          have c14b0 : (t351 == 0) = true := beq_iff_eq.mpr c14
          have c14b1 : (t351 != 0) = false := bne_eq_false_iff_eq.mpr c14
          clear c14
          have H' := Aside0.mk H
          clear H
          go_wp2
          repeat (go_quiet (fail); try go_wp2)
          go_meet
          case rel => exact ⟨_, (decide ((wrap64 ((a0.size : Int) + (a1.size : Int))) > 65536)), (by first | rfl | (simp; done) | (simp [*]; done) | (simp; unfold wrap64; omega)), H', ⟨by first | omega | exact Nat.le_refl _⟩, ⟨by (with_reducible repeat (first | apply Kd.R_alloc | apply Kd.R_drewN | apply Kd.R_drew)); exact Kd.R_mono HO349.out (fun _ hk => ⟨hk.1.2, hk.2⟩)⟩, ⟨by (with_reducible repeat (first | apply Kd.R_alloc | apply Kd.R_drewN | apply Kd.R_drew)); exact Kd.R_mono HO353.out (fun _ hk => ⟨hk.1.2, hk.2⟩)⟩, ⟨by (with_reducible repeat (first | apply Kd.R_alloc | apply Kd.R_drewN | apply Kd.R_drew)); exact Kd.R_mono HO357.out (fun _ hk => ⟨hk.1.2, hk.2⟩)⟩, ⟨by repeat (first | (with_reducible first | exact HB.out | apply below_alloc | apply pw_below_drewN | apply below_drew1) | exact HB.out)⟩⟩
        · rw [if_neg c14] at H
          have c14b0 : (t351 == 0) = false := beq_eq_false_iff_ne.mpr c14
          have c14b1 : (t351 != 0) = true := bne_iff_ne.mpr c14
          have H' := Aside0.mk H
          clear H
          go_wp2
          repeat (go_quiet (fail); try go_wp2)
          go_meet
          case rel => exact ⟨_, (true), (by first | rfl | (simp; done) | (simp [*]; done)), H', ⟨by first | omega | exact Nat.le_refl _⟩, ⟨by (with_reducible repeat (first | apply Kd.R_alloc | apply Kd.R_drewN | apply Kd.R_drew)); exact Kd.R_mono HO349.out (fun _ hk => ⟨hk.1.2, hk.2⟩)⟩, ⟨by (with_reducible repeat (first | apply Kd.R_alloc | apply Kd.R_drewN | apply Kd.R_drew)); exact Kd.R_mono HO353.out (fun _ hk => ⟨hk.1.2, hk.2⟩)⟩, ⟨by (with_reducible repeat (first | apply Kd.R_alloc | apply Kd.R_drewN | apply Kd.R_drew)); exact Kd.R_mono HO357.out (fun _ hk => ⟨hk.1.2, hk.2⟩)⟩, ⟨by repeat (first | (with_reducible first | exact HB.out | apply below_alloc | apply pw_below_drewN | apply below_drew1) | exact HB.out)⟩⟩
      · rw [if_neg c13] at H
        have c13b0 : (t347 == 0) = false := beq_eq_false_iff_ne.mpr c13
        have c13b1 : (t347 != 0) = true := bne_iff_ne.mpr c13
        (first | rw [c13b0] | (simp only [i64_w, i32_w]; rw [c13b0]) | skip)
        have H' := Aside0.mk H
        clear H
        go_wp2
        repeat (go_quiet (fail); try go_wp2)
        go_meet
        case rel => exact ⟨_, (true), (by first | rfl | (simp; done) | (simp [*]; done)), H', ⟨by first | omega | exact Nat.le_refl _⟩, ⟨by (with_reducible repeat (first | apply Kd.R_alloc | apply Kd.R_drewN | apply Kd.R_drew)); exact Kd.R_mono HO349.out (fun _ hk => ⟨hk.1.2, hk.2⟩)⟩, ⟨by (with_reducible repeat (first | apply Kd.R_alloc | apply Kd.R_drewN | apply Kd.R_drew)); exact Kd.R_mono HO353.out (fun _ hk => ⟨hk.1.2, hk.2⟩)⟩, ⟨by (with_reducible repeat (first | apply Kd.R_alloc | apply Kd.R_drewN | apply Kd.R_drew)); exact Kd.R_mono HO357.out (fun _ hk => ⟨hk.1.2, hk.2⟩)⟩, ⟨by repeat (first | (with_reducible first | exact HB.out | apply below_alloc | apply pw_below_drewN | apply below_drew1) | exact HB.out)⟩⟩
    case rest =>
      clear HC8
      try clear c1
      try clear p2
      try clear c6
      try clear c6b0
      try clear c6b1
      try clear c6b2
      try clear p6
      try clear c7
      try clear c13
      try clear c13b0
      try clear c13b1
      try clear c14
      try clear c14b0
      try clear c14b1
      obtain ⟨kq, x44_7, rfl, HA, HJ7, HO_6, HO_8, HO_10, HB⟩ := hcut
      cases kq with
      | zero => exact absurd HA.out (by simp [regletlaw01_PhysParts.j0])
      | succ kj7 =>
        have H := HA.out
        clear HA
        simp only [regletlaw01_PhysParts.j0] at H
        by_cases c15 : x44_7 = true
        · subst c15
          have H1 : (if t345 = true then (if t347 = 0 then (some true) else (some ((t346.length : Int) == 0))) else (some false)) = some r := by rw [if_pos rfl] at H; exact H
          clear H
          have H := H1
          clear H1
          by_cases c16 : t345 = true
          · subst c16
            have H1 : (if t347 = 0 then (some true) else (some ((t346.length : Int) == 0))) = some r := by rw [if_pos rfl] at H; exact H
            clear H
            have H := H1
            clear H1
            by_cases c17 : t347 = 0
            · rw [if_pos c17] at H
              have c17b0 : (t347 == 0) = true := beq_iff_eq.mpr c17
              have c17b1 : (t347 != 0) = false := bne_eq_false_iff_eq.mpr c17
              clear c17
              obtain rfl := Option.some.inj H
              go_wp2
              repeat (go_quiet (fail); try go_wp2)
              go_ret
              exact ⟨by first | rfl | (simp [errW_none, errW_some] <;> rfl) | (simp [*, errW_none, errW_some] <;> rfl), by repeat (first | (with_reducible first | exact HB.out | apply below_alloc | apply pw_below_drewN | apply below_drew1) | exact HB.out)⟩
            · rw [if_neg c17] at H
              have c17b0 : (t347 == 0) = false := beq_eq_false_iff_ne.mpr c17
              have c17b1 : (t347 != 0) = true := bne_iff_ne.mpr c17
              obtain rfl := Option.some.inj H
              obtain ⟨Ao18, co18, eo18⟩ := Kd.R_slice HO_6.out
              subst eo18
              go_wp2
              repeat (go_quiet (fail); try go_wp2)
              go_ret
              exact ⟨by first | rfl | (simp [errW_none, errW_some] <;> rfl) | (simp [*, errW_none, errW_some] <;> rfl), by repeat (first | (with_reducible first | exact HB.out | apply below_alloc | apply pw_below_drewN | apply below_drew1) | exact HB.out)⟩
          · replace c16 := Bool.eq_false_iff.mpr c16
            subst c16
            have H1 : (some false) = some r := by rw [if_neg (show ¬ (false = true) by decide)] at H; exact H
            clear H
            have H := H1
            clear H1
            obtain rfl := Option.some.inj H
            go_wp2
            repeat (go_quiet (fail); try go_wp2)
            go_ret
            exact ⟨by first | rfl | (simp [errW_none, errW_some] <;> rfl) | (simp [*, errW_none, errW_some] <;> rfl), by repeat (first | (with_reducible first | exact HB.out | apply below_alloc | apply pw_below_drewN | apply below_drew1) | exact HB.out)⟩
        · replace c15 := Bool.eq_false_iff.mpr c15
          subst c15
          have H1 : (if t355 = 0 then (regletlaw01_PhysParts.j1 kj7 a0 t345 t346 t350 t354 ((t354.length : Int) != (wrap64 ((t346.length : Int) + (t350.length : Int))))) else (regletlaw01_PhysParts.j1 kj7 a0 t345 t346 t350 t354 true)) = some r := by rw [if_neg (show ¬ (false = true) by decide)] at H; exact H
          clear H
          have H := H1
          clear H1
          have HC19 := Aside0.mk H
          clear H
          go_upto_region 7 with (fail)
          repeat (go_quiet (fail); go_upto_region 7 with (fail))
          go_cut [66] (fun v66 wc => ∃ (kq : Nat) (x66_18 : Bool), v66 = .bool x66_18 ∧ Aside0 (regletlaw01_PhysParts.j1 kq a0 t345 t346 t350 t354 x66_18 = some r) ∧ Aside0 (kq ≤ kj7) ∧ Aside0 (Kd.R k55 55 wc w.heap.size (fun k_ => some k_ ≠ (v352 : Value).ownBlock ∧ some k_ ≠ (v356 : Value).ownBlock) v348 t346) ∧ Aside0 (Kd.R k55 55 wc w.heap.size (fun k_ => some k_ ≠ (v348 : Value).ownBlock ∧ some k_ ≠ (v356 : Value).ownBlock) v352 t350) ∧ Aside0 (Kd.R k55 55 wc w.heap.size (fun k_ => some k_ ≠ (v348 : Value).ownBlock ∧ some k_ ≠ (v352 : Value).ownBlock) v356 t354) ∧ Aside0 (Below w.heap.size w wc))
          case first =>
            have H := HC19.out
            clear HC19
            by_cases c20 : t355 = 0
            · rw [if_pos c20] at H
              have c20b0 : (t355 == 0) = true := beq_iff_eq.mpr c20
              have c20b1 : (t355 != 0) = false := bne_eq_false_iff_eq.mpr c20
              clear c20
              (first | rw [c20b0] | (simp only [i64_w, i32_w]; rw [c20b0]) | skip)
              have H' := Aside0.mk H
              clear H
              obtain ⟨Ao21, co21, eo21⟩ := Kd.R_slice HO_10.out
              subst eo21
              obtain ⟨Ao22, co22, eo22⟩ := Kd.R_slice HO_6.out
              subst eo22
              obtain ⟨Ao23, co23, eo23⟩ := Kd.R_slice HO_8.out
              subst eo23
              go_wp2
              repeat (go_quiet (fail); try go_wp2)
              go_meet
              case rel => exact ⟨_, (((t354.length : Int) != (wrap64 ((t346.length : Int) + (t350.length : Int))))), (by first | rfl | (simp; done) | (simp [*]; done)), H', ⟨by have := HJ7.out; first | omega | exact Nat.le_refl _⟩, ⟨by (with_reducible repeat (first | apply Kd.R_alloc | apply Kd.R_drewN | apply Kd.R_drew)); exact HO_6.out⟩, ⟨by (with_reducible repeat (first | apply Kd.R_alloc | apply Kd.R_drewN | apply Kd.R_drew)); exact HO_8.out⟩, ⟨by (with_reducible repeat (first | apply Kd.R_alloc | apply Kd.R_drewN | apply Kd.R_drew)); exact HO_10.out⟩, ⟨by repeat (first | (with_reducible first | exact HB.out | apply below_alloc | apply pw_below_drewN | apply below_drew1) | exact HB.out)⟩⟩
            · rw [if_neg c20] at H
              have c20b0 : (t355 == 0) = false := beq_eq_false_iff_ne.mpr c20
              have c20b1 : (t355 != 0) = true := bne_iff_ne.mpr c20
              (first | rw [c20b0] | (simp only [i64_w, i32_w]; rw [c20b0]) | skip)
              have H' := Aside0.mk H
              clear H
              go_wp2
              repeat (go_quiet (fail); try go_wp2)
              go_meet
              case rel => exact ⟨_, (true), (by first | rfl | (simp; done) | (simp [*]; done)), H', ⟨by have := HJ7.out; first | omega | exact Nat.le_refl _⟩, ⟨by (with_reducible repeat (first | apply Kd.R_alloc | apply Kd.R_drewN | apply Kd.R_drew)); exact HO_6.out⟩, ⟨by (with_reducible repeat (first | apply Kd.R_alloc | apply Kd.R_drewN | apply Kd.R_drew)); exact HO_8.out⟩, ⟨by (with_reducible repeat (first | apply Kd.R_alloc | apply Kd.R_drewN | apply Kd.R_drew)); exact HO_10.out⟩, ⟨by repeat (first | (with_reducible first | exact HB.out | apply below_alloc | apply pw_below_drewN | apply below_drew1) | exact HB.out)⟩⟩
          case rest =>
            clear HC19
            try clear c1
            try clear c2
            try clear p2
            try clear c6
            try clear c6b0
            try clear c6b1
            try clear c6b2
            try clear p6
            try clear c7
            try clear c13
            try clear c13b0
            try clear c13b1
            try clear c14
            try clear c14b0
            try clear c14b1
            try clear c15
            try clear c16
            try clear c17
            try clear c17b0
            try clear c17b1
            try clear c20
            try clear c20b0
            try clear c20b1
            try clear p2
            try clear p6
            obtain ⟨kq, x66_18, rfl, HA, HJ18, HO_6, HO_8, HO_10, HB⟩ := hcut
            cases kq with
            | zero => exact absurd HA.out (by simp [regletlaw01_PhysParts.j1])
            | succ kj18 =>
              have H := HA.out
              clear HA
              simp only [regletlaw01_PhysParts.j1] at H
              by_cases c24 : x66_18 = true
              · subst c24
                have H1 : (some false) = some r := by rw [if_pos rfl] at H; exact H
                clear H
                have H := H1
                clear H1
                obtain rfl := Option.some.inj H
                go_wp2
                repeat (go_quiet (fail); try go_wp2)
                go_ret
                exact ⟨by first | rfl | (simp [errW_none, errW_some] <;> rfl) | (simp [*, errW_none, errW_some] <;> rfl), by repeat (first | (with_reducible first | exact HB.out | apply below_alloc | apply pw_below_drewN | apply below_drew1) | exact HB.out)⟩
              · replace c24 := Bool.eq_false_iff.mpr c24
                subst c24
                have H1 : (regletlaw01_PhysParts.l0 kj18 a0 t345 t346 t350 t354 0) = some r := by rw [if_neg (show ¬ (false = true) by decide)] at H; exact H
                clear H
                have H := H1
                clear H1
                have H' := Aside0.mk H
                clear H
                go_wp2
                repeat (go_quiet (fail); try go_wp2)
                go_loopg [12] kj18 (fun kq v12 w' => ∃ (x12_3 : Int), v12 = .int .i64 x12_3 ∧ Aside0 (regletlaw01_PhysParts.l0 kq a0 t345 t346 t350 t354 x12_3 = some r) ∧ Aside0 (kq ≤ kj18) ∧ Aside0 (Kd.R k55 55 w' w.heap.size (fun k_ => some k_ ≠ (v352 : Value).ownBlock ∧ some k_ ≠ (v356 : Value).ownBlock) v348 t346) ∧ Aside0 (Kd.R k55 55 w' w.heap.size (fun k_ => some k_ ≠ (v348 : Value).ownBlock ∧ some k_ ≠ (v356 : Value).ownBlock) v352 t350) ∧ Aside0 (Kd.R k55 55 w' w.heap.size (fun k_ => some k_ ≠ (v348 : Value).ownBlock ∧ some k_ ≠ (v352 : Value).ownBlock) v356 t354) ∧ Aside0 (Below w.heap.size w w'))
                case atStart => exact ⟨(0), (by first | rfl | (simp; done) | (simp [*]; done)), H', ⟨Nat.le_refl _⟩, ⟨by (with_reducible repeat (first | apply Kd.R_alloc | apply Kd.R_drewN | apply Kd.R_drew)); exact HO_6.out⟩, ⟨by (with_reducible repeat (first | apply Kd.R_alloc | apply Kd.R_drewN | apply Kd.R_drew)); exact HO_8.out⟩, ⟨by (with_reducible repeat (first | apply Kd.R_alloc | apply Kd.R_drewN | apply Kd.R_drew)); exact HO_10.out⟩, ⟨by repeat (first | (with_reducible first | exact HB.out | apply below_alloc | apply pw_below_drewN | apply below_drew1) | exact HB.out)⟩⟩
                case round =>
                  clear H'
                  try clear c1
                  try clear c2
                  try clear p2
                  try clear c6
                  try clear c6b0
                  try clear c6b1
                  try clear c6b2
                  try clear p6
                  try clear c7
                  try clear c13
                  try clear c13b0
                  try clear c13b1
                  try clear c14
                  try clear c14b0
                  try clear c14b1
                  try clear c15
                  try clear c16
                  try clear c17
                  try clear c17b0
                  try clear c17b1
                  try clear c20
                  try clear c20b0
                  try clear c20b1
                  try clear c24
                  try clear p2
                  try clear p6
                  obtain ⟨x12_3, rfl, HA, HK3, HO_6, HO_8, HO_10, HB⟩ := hrel
                  cases gk with
                  | zero => exact absurd HA.out (by simp [regletlaw01_PhysParts.l0])
                  | succ k3 =>
                    have H := HA.out
                    clear HA
                    simp only [regletlaw01_PhysParts.l0] at H
                    by_cases c25 : x12_3 < (t354.length : Int)
                    · rw [if_pos c25] at H
                      have c25b0 : decide (x12_3 < (t354.length : Int)) = true := decide_eq_true c25
                      clear c25
                      by_cases c26 : x12_3 < (t346.length : Int)
                      · rw [if_pos c26] at H
                        have c26b0 : decide (x12_3 < (t346.length : Int)) = true := decide_eq_true c26
                        clear c26
                        by_cases c27 : 0 ≤ x12_3
                        · rw [if_pos c27] at H
                          have c27b0 : decide (0 ≤ x12_3) = true := decide_eq_true c27
                          clear c27
                          by_cases c28 : (!(((rd_T55 t354 x12_3).f0) == ((rd_T55 t346 x12_3).f0)) || (!(((rd_T55 t354 x12_3).f1) == ((rd_T55 t346 x12_3).f1)) || (!(((rd_T55 t354 x12_3).f2) == ((rd_T55 t346 x12_3).f2))))) = true
                          · rw [if_pos c28] at H
                            have c28b0 : (!(((rd_T55 t354 x12_3).f0) == ((rd_T55 t346 x12_3).f0)) || (!(((rd_T55 t354 x12_3).f1) == ((rd_T55 t346 x12_3).f1)) || (!(((rd_T55 t354 x12_3).f2) == ((rd_T55 t346 x12_3).f2))))) = true := c28
                            clear c28
                            obtain rfl := Option.some.inj H
                            obtain ⟨Ao29, co29, eo29⟩ := Kd.R_slice HO_10.out
                            subst eo29
                            obtain ⟨Ao30, co30, eo30⟩ := Kd.R_slice HO_6.out
                            subst eo30
                            have p358 : 0 ≤ (x12_3 : Int) := of_decide_eq_true (by first | (with_reducible assumption) | assumption)
                            have q358 : x12_3 < (t354.length : Int) := of_decide_eq_true (by first | (with_reducible assumption) | assumption)
                            obtain ⟨ad358, e358, hx358_0, hx358_1, hx358_2⟩ := at_T55 (Kd.R_reads' HO_10.out).2.2 x12_3 p358 q358
                            cases e358
                            replace p358 := eq_true p358
                            replace q358 := eq_true q358
                            have p359 : 0 ≤ (x12_3 : Int) := of_decide_eq_true (by first | (with_reducible assumption) | assumption)
                            have q359 : x12_3 < (t346.length : Int) := of_decide_eq_true (by first | (with_reducible assumption) | assumption)
                            obtain ⟨ad359, e359, hx359_0, hx359_1, hx359_2⟩ := at_T55 (Kd.R_reads' HO_6.out).2.2 x12_3 p359 q359
                            cases e359
                            replace p359 := eq_true p359
                            replace q359 := eq_true q359
                            go_wp2
                            repeat (go_quiet (fail); try go_wp2)
                            go_ret
                            exact ⟨by first | rfl | (simp [errW_none, errW_some] <;> rfl) | (simp [*, errW_none, errW_some] <;> rfl), by repeat (first | (with_reducible first | exact HB.out | apply below_alloc | apply pw_below_drewN | apply below_drew1) | exact HB.out)⟩
                          · rw [if_neg c28] at H
                            have c28b0 : (!(((rd_T55 t354 x12_3).f0) == ((rd_T55 t346 x12_3).f0)) || (!(((rd_T55 t354 x12_3).f1) == ((rd_T55 t346 x12_3).f1)) || (!(((rd_T55 t354 x12_3).f2) == ((rd_T55 t346 x12_3).f2))))) = false := by simpa using c28
                            clear c28
                            by_cases c31 : x12_3 ≥ (t346.length : Int)
                            · rw [if_pos c31] at H
                              have c31b0 : decide ((t346.length : Int) ≤ x12_3) = true := decide_eq_true c31
                              clear c31
                              obtain ⟨ji32, hji32⟩ : ∃ j_ : Int, (wrap64 (x12_3 - (t346.length : Int))) = j_ := ⟨_, rfl⟩
                              replace H : (if 0 ≤ (ji32) then (if (ji32) < (t350.length : Int) then (if (!(((rd_T55 t354 x12_3).f0) == ((rd_T55 t350 (ji32)).f0)) || (!(((rd_T55 t354 x12_3).f1) == (wrap64 (((rd_T55 t350 (ji32)).f1) + (a0.size : Int)))) || (!(((rd_T55 t354 x12_3).f2) == ((rd_T55 t350 (ji32)).f2))))) = true then (some false) else (regletlaw01_PhysParts.l0 k3 a0 t345 t346 t350 t354 (wrap64 (x12_3 + 1)))) else (none)) else (none)) = some r := by first | (rw [hji32] at H; exact H) | (simp only [hji32] at H ⊢; exact H)
                              have hji32w : (IntKind.i64.wrap (x12_3 - (t346.length : Int))) = ji32 := (i64_w _).trans hji32
                              by_cases c33 : 0 ≤ (ji32)
                              · rw [if_pos c33] at H
                                have c33b0 : decide (0 ≤ (ji32)) = true := decide_eq_true c33
                                clear c33
                                by_cases c34 : (ji32) < (t350.length : Int)
                                · rw [if_pos c34] at H
                                  have c34b0 : decide ((ji32) < (t350.length : Int)) = true := decide_eq_true c34
                                  clear c34
                                  by_cases c35 : (!(((rd_T55 t354 x12_3).f0) == ((rd_T55 t350 (ji32)).f0)) || (!(((rd_T55 t354 x12_3).f1) == (wrap64 (((rd_T55 t350 (ji32)).f1) + (a0.size : Int)))) || (!(((rd_T55 t354 x12_3).f2) == ((rd_T55 t350 (ji32)).f2))))) = true
                                  · rw [if_pos c35] at H
                                    have c35b0 : (!(((rd_T55 t354 x12_3).f0) == ((rd_T55 t350 (ji32)).f0)) || (!(((rd_T55 t354 x12_3).f1) == (wrap64 (((rd_T55 t350 (ji32)).f1) + (a0.size : Int)))) || (!(((rd_T55 t354 x12_3).f2) == ((rd_T55 t350 (ji32)).f2))))) = true := c35
                                    clear c35
                                    obtain rfl := Option.some.inj H
                                    obtain ⟨Ao36, co36, eo36⟩ := Kd.R_slice HO_10.out
                                    subst eo36
                                    obtain ⟨Ao37, co37, eo37⟩ := Kd.R_slice HO_6.out
                                    subst eo37
                                    have p358 : 0 ≤ (x12_3 : Int) := of_decide_eq_true (by first | (with_reducible assumption) | assumption)
                                    have q358 : x12_3 < (t354.length : Int) := of_decide_eq_true (by first | (with_reducible assumption) | assumption)
                                    obtain ⟨ad358, e358, hx358_0, hx358_1, hx358_2⟩ := at_T55 (Kd.R_reads' HO_10.out).2.2 x12_3 p358 q358
                                    cases e358
                                    replace p358 := eq_true p358
                                    replace q358 := eq_true q358
                                    have p359 : 0 ≤ (x12_3 : Int) := of_decide_eq_true (by first | (with_reducible assumption) | assumption)
                                    have q359 : x12_3 < (t346.length : Int) := of_decide_eq_true (by first | (with_reducible assumption) | assumption)
                                    obtain ⟨ad359, e359, hx359_0, hx359_1, hx359_2⟩ := at_T55 (Kd.R_reads' HO_6.out).2.2 x12_3 p359 q359
                                    cases e359
                                    replace p359 := eq_true p359
                                    replace q359 := eq_true q359
                                    have p360 : 0 ≤ (x12_3 : Int) := of_decide_eq_true (by first | (with_reducible assumption) | assumption)
                                    have q360 : x12_3 < (t354.length : Int) := of_decide_eq_true (by first | (with_reducible assumption) | assumption)
                                    obtain ⟨ad360, e360, hx360_0, hx360_1, hx360_2⟩ := at_T55 (Kd.R_reads' HO_10.out).2.2 x12_3 p360 q360
                                    obtain rfl : ad358 = ad360 := (by injection e360)
                                    replace p360 := eq_true p360
                                    replace q360 := eq_true q360
                                    obtain ⟨Ao38, co38, eo38⟩ := Kd.R_slice HO_8.out
                                    subst eo38
                                    have p361 : 0 ≤ ((ji32) : Int) := of_decide_eq_true (by first | (with_reducible assumption) | assumption)
                                    have q361 : (ji32) < (t350.length : Int) := of_decide_eq_true (by first | (with_reducible assumption) | assumption)
                                    obtain ⟨ad361, e361, hx361_0, hx361_1, hx361_2⟩ := at_T55 (Kd.R_reads' HO_8.out).2.2 (ji32) p361 q361
                                    cases e361
                                    replace p361 := eq_true p361
                                    replace q361 := eq_true q361
                                    have p362 : 0 ≤ ((ji32) : Int) := of_decide_eq_true (by first | (with_reducible assumption) | assumption)
                                    have q362 : (ji32) < (t350.length : Int) := of_decide_eq_true (by first | (with_reducible assumption) | assumption)
                                    obtain ⟨ad362, e362, hx362_0, hx362_1, hx362_2⟩ := at_T55 (Kd.R_reads' HO_8.out).2.2 (ji32) p362 q362
                                    obtain rfl : ad361 = ad362 := (by injection e362)
                                    replace p362 := eq_true p362
                                    replace q362 := eq_true q362
                                    have p363 : 0 ≤ ((ji32) : Int) := of_decide_eq_true (by first | (with_reducible assumption) | assumption)
                                    have q363 : (ji32) < (t350.length : Int) := of_decide_eq_true (by first | (with_reducible assumption) | assumption)
                                    obtain ⟨ad363, e363, hx363_0, hx363_1, hx363_2⟩ := at_T55 (Kd.R_reads' HO_8.out).2.2 (ji32) p363 q363
                                    obtain rfl : ad361 = ad363 := (by injection e363)
                                    replace p363 := eq_true p363
                                    replace q363 := eq_true q363
                                    go_wp2
                                    repeat (go_quiet (fail); try go_wp2)
                                    go_ret
                                    exact ⟨by first | rfl | (simp [errW_none, errW_some] <;> rfl) | (simp only [← hji32]; first | rfl | (simp [errW_none, errW_some] <;> rfl)) | (simp [*, errW_none, errW_some] <;> rfl), by repeat (first | (with_reducible first | exact HB.out | apply below_alloc | apply pw_below_drewN | apply below_drew1) | exact HB.out)⟩
                                  · rw [if_neg c35] at H
                                    have c35b0 : (!(((rd_T55 t354 x12_3).f0) == ((rd_T55 t350 (ji32)).f0)) || (!(((rd_T55 t354 x12_3).f1) == (wrap64 (((rd_T55 t350 (ji32)).f1) + (a0.size : Int)))) || (!(((rd_T55 t354 x12_3).f2) == ((rd_T55 t350 (ji32)).f2))))) = false := by simpa using c35
                                    clear c35
                                    have H' := Aside0.mk H
                                    clear H
                                    obtain ⟨Ao39, co39, eo39⟩ := Kd.R_slice HO_10.out
                                    subst eo39
                                    obtain ⟨Ao40, co40, eo40⟩ := Kd.R_slice HO_6.out
                                    subst eo40
                                    have p358 : 0 ≤ (x12_3 : Int) := of_decide_eq_true (by first | (with_reducible assumption) | assumption)
                                    have q358 : x12_3 < (t354.length : Int) := of_decide_eq_true (by first | (with_reducible assumption) | assumption)
                                    obtain ⟨ad358, e358, hx358_0, hx358_1, hx358_2⟩ := at_T55 (Kd.R_reads' HO_10.out).2.2 x12_3 p358 q358
                                    cases e358
                                    replace p358 := eq_true p358
                                    replace q358 := eq_true q358
                                    have p359 : 0 ≤ (x12_3 : Int) := of_decide_eq_true (by first | (with_reducible assumption) | assumption)
                                    have q359 : x12_3 < (t346.length : Int) := of_decide_eq_true (by first | (with_reducible assumption) | assumption)
                                    obtain ⟨ad359, e359, hx359_0, hx359_1, hx359_2⟩ := at_T55 (Kd.R_reads' HO_6.out).2.2 x12_3 p359 q359
                                    cases e359
                                    replace p359 := eq_true p359
                                    replace q359 := eq_true q359
                                    have p360 : 0 ≤ (x12_3 : Int) := of_decide_eq_true (by first | (with_reducible assumption) | assumption)
                                    have q360 : x12_3 < (t354.length : Int) := of_decide_eq_true (by first | (with_reducible assumption) | assumption)
                                    obtain ⟨ad360, e360, hx360_0, hx360_1, hx360_2⟩ := at_T55 (Kd.R_reads' HO_10.out).2.2 x12_3 p360 q360
                                    obtain rfl : ad358 = ad360 := (by injection e360)
                                    replace p360 := eq_true p360
                                    replace q360 := eq_true q360
                                    obtain ⟨Ao41, co41, eo41⟩ := Kd.R_slice HO_8.out
                                    subst eo41
                                    have p361 : 0 ≤ ((ji32) : Int) := of_decide_eq_true (by first | (with_reducible assumption) | assumption)
                                    have q361 : (ji32) < (t350.length : Int) := of_decide_eq_true (by first | (with_reducible assumption) | assumption)
                                    obtain ⟨ad361, e361, hx361_0, hx361_1, hx361_2⟩ := at_T55 (Kd.R_reads' HO_8.out).2.2 (ji32) p361 q361
                                    cases e361
                                    replace p361 := eq_true p361
                                    replace q361 := eq_true q361
                                    have p362 : 0 ≤ ((ji32) : Int) := of_decide_eq_true (by first | (with_reducible assumption) | assumption)
                                    have q362 : (ji32) < (t350.length : Int) := of_decide_eq_true (by first | (with_reducible assumption) | assumption)
                                    obtain ⟨ad362, e362, hx362_0, hx362_1, hx362_2⟩ := at_T55 (Kd.R_reads' HO_8.out).2.2 (ji32) p362 q362
                                    obtain rfl : ad361 = ad362 := (by injection e362)
                                    replace p362 := eq_true p362
                                    replace q362 := eq_true q362
                                    have p363 : 0 ≤ ((ji32) : Int) := of_decide_eq_true (by first | (with_reducible assumption) | assumption)
                                    have q363 : (ji32) < (t350.length : Int) := of_decide_eq_true (by first | (with_reducible assumption) | assumption)
                                    obtain ⟨ad363, e363, hx363_0, hx363_1, hx363_2⟩ := at_T55 (Kd.R_reads' HO_8.out).2.2 (ji32) p363 q363
                                    obtain rfl : ad361 = ad363 := (by injection e363)
                                    replace p363 := eq_true p363
                                    replace q363 := eq_true q363
                                    go_wp2
                                    repeat (go_quiet (fail); try go_wp2)
                                    go_roundg k3
                                    case measure => have := HJ7.out; have := HJ18.out; have := HK3.out; omega
                                    case rel => exact ⟨(wrap64 (x12_3 + 1)), (by first | rfl | (simp; done) | (simp [*]; done)), H', ⟨by have := HJ7.out; have := HJ18.out; have := HK3.out; omega⟩, ⟨by (with_reducible repeat (first | apply Kd.R_alloc | apply Kd.R_drewN | apply Kd.R_drew)); exact HO_6.out⟩, ⟨by (with_reducible repeat (first | apply Kd.R_alloc | apply Kd.R_drewN | apply Kd.R_drew)); exact HO_8.out⟩, ⟨by (with_reducible repeat (first | apply Kd.R_alloc | apply Kd.R_drewN | apply Kd.R_drew)); exact HO_10.out⟩, ⟨by repeat (first | (with_reducible first | exact HB.out | apply below_alloc | apply pw_below_drewN | apply below_drew1) | exact HB.out)⟩⟩
                                · rw [if_neg c34] at H
                                  exact absurd H (by simp)
                              · rw [if_neg c33] at H
                                exact absurd H (by simp)
                            · rw [if_neg c31] at H
                              have c31b0 : decide ((t346.length : Int) ≤ x12_3) = false := decide_eq_false c31
                              clear c31
                              have H' := Aside0.mk H
                              clear H
                              obtain ⟨Ao42, co42, eo42⟩ := Kd.R_slice HO_10.out
                              subst eo42
                              obtain ⟨Ao43, co43, eo43⟩ := Kd.R_slice HO_6.out
                              subst eo43
                              have p358 : 0 ≤ (x12_3 : Int) := of_decide_eq_true (by first | (with_reducible assumption) | assumption)
                              have q358 : x12_3 < (t354.length : Int) := of_decide_eq_true (by first | (with_reducible assumption) | assumption)
                              obtain ⟨ad358, e358, hx358_0, hx358_1, hx358_2⟩ := at_T55 (Kd.R_reads' HO_10.out).2.2 x12_3 p358 q358
                              cases e358
                              replace p358 := eq_true p358
                              replace q358 := eq_true q358
                              have p359 : 0 ≤ (x12_3 : Int) := of_decide_eq_true (by first | (with_reducible assumption) | assumption)
                              have q359 : x12_3 < (t346.length : Int) := of_decide_eq_true (by first | (with_reducible assumption) | assumption)
                              obtain ⟨ad359, e359, hx359_0, hx359_1, hx359_2⟩ := at_T55 (Kd.R_reads' HO_6.out).2.2 x12_3 p359 q359
                              cases e359
                              replace p359 := eq_true p359
                              replace q359 := eq_true q359
                              go_wp2
                              repeat (go_quiet (fail); try go_wp2)
                              go_roundg k3
                              case measure => have := HJ7.out; have := HJ18.out; have := HK3.out; omega
                              case rel => exact ⟨(wrap64 (x12_3 + 1)), (by first | rfl | (simp; done) | (simp [*]; done)), H', ⟨by have := HJ7.out; have := HJ18.out; have := HK3.out; omega⟩, ⟨by (with_reducible repeat (first | apply Kd.R_alloc | apply Kd.R_drewN | apply Kd.R_drew)); exact HO_6.out⟩, ⟨by (with_reducible repeat (first | apply Kd.R_alloc | apply Kd.R_drewN | apply Kd.R_drew)); exact HO_8.out⟩, ⟨by (with_reducible repeat (first | apply Kd.R_alloc | apply Kd.R_drewN | apply Kd.R_drew)); exact HO_10.out⟩, ⟨by repeat (first | (with_reducible first | exact HB.out | apply below_alloc | apply pw_below_drewN | apply below_drew1) | exact HB.out)⟩⟩
                        · rw [if_neg c27] at H
                          exact absurd H (by simp)
                      · rw [if_neg c26] at H
                        have c26b0 : decide (x12_3 < (t346.length : Int)) = false := decide_eq_false c26
                        clear c26
                        by_cases c44 : x12_3 ≥ (t346.length : Int)
                        · rw [if_pos c44] at H
                          have c44b0 : decide ((t346.length : Int) ≤ x12_3) = true := decide_eq_true c44
                          clear c44
                          by_cases c45 : 0 ≤ x12_3
                          · rw [if_pos c45] at H
                            have c45b0 : decide (0 ≤ x12_3) = true := decide_eq_true c45
                            clear c45
                            obtain ⟨ji46, hji46⟩ : ∃ j_ : Int, (wrap64 (x12_3 - (t346.length : Int))) = j_ := ⟨_, rfl⟩
                            replace H : (if 0 ≤ (ji46) then (if (ji46) < (t350.length : Int) then (if (!(((rd_T55 t354 x12_3).f0) == ((rd_T55 t350 (ji46)).f0)) || (!(((rd_T55 t354 x12_3).f1) == (wrap64 (((rd_T55 t350 (ji46)).f1) + (a0.size : Int)))) || (!(((rd_T55 t354 x12_3).f2) == ((rd_T55 t350 (ji46)).f2))))) = true then (some false) else (regletlaw01_PhysParts.l0 k3 a0 t345 t346 t350 t354 (wrap64 (x12_3 + 1)))) else (none)) else (none)) = some r := by first | (rw [hji46] at H; exact H) | (simp only [hji46] at H ⊢; exact H)
                            have hji46w : (IntKind.i64.wrap (x12_3 - (t346.length : Int))) = ji46 := (i64_w _).trans hji46
                            by_cases c47 : 0 ≤ (ji46)
                            · rw [if_pos c47] at H
                              have c47b0 : decide (0 ≤ (ji46)) = true := decide_eq_true c47
                              clear c47
                              by_cases c48 : (ji46) < (t350.length : Int)
                              · rw [if_pos c48] at H
                                have c48b0 : decide ((ji46) < (t350.length : Int)) = true := decide_eq_true c48
                                clear c48
                                by_cases c49 : (!(((rd_T55 t354 x12_3).f0) == ((rd_T55 t350 (ji46)).f0)) || (!(((rd_T55 t354 x12_3).f1) == (wrap64 (((rd_T55 t350 (ji46)).f1) + (a0.size : Int)))) || (!(((rd_T55 t354 x12_3).f2) == ((rd_T55 t350 (ji46)).f2))))) = true
                                · rw [if_pos c49] at H
                                  have c49b0 : (!(((rd_T55 t354 x12_3).f0) == ((rd_T55 t350 (ji46)).f0)) || (!(((rd_T55 t354 x12_3).f1) == (wrap64 (((rd_T55 t350 (ji46)).f1) + (a0.size : Int)))) || (!(((rd_T55 t354 x12_3).f2) == ((rd_T55 t350 (ji46)).f2))))) = true := c49
                                  clear c49
                                  obtain rfl := Option.some.inj H
                                  obtain ⟨Ao50, co50, eo50⟩ := Kd.R_slice HO_10.out
                                  subst eo50
                                  obtain ⟨Ao51, co51, eo51⟩ := Kd.R_slice HO_6.out
                                  subst eo51
                                  have p364 : 0 ≤ (x12_3 : Int) := of_decide_eq_true (by first | (with_reducible assumption) | assumption)
                                  have q364 : x12_3 < (t354.length : Int) := of_decide_eq_true (by first | (with_reducible assumption) | assumption)
                                  obtain ⟨ad364, e364, hx364_0, hx364_1, hx364_2⟩ := at_T55 (Kd.R_reads' HO_10.out).2.2 x12_3 p364 q364
                                  cases e364
                                  replace p364 := eq_true p364
                                  replace q364 := eq_true q364
                                  obtain ⟨Ao52, co52, eo52⟩ := Kd.R_slice HO_8.out
                                  subst eo52
                                  have p365 : 0 ≤ ((ji46) : Int) := of_decide_eq_true (by first | (with_reducible assumption) | assumption)
                                  have q365 : (ji46) < (t350.length : Int) := of_decide_eq_true (by first | (with_reducible assumption) | assumption)
                                  obtain ⟨ad365, e365, hx365_0, hx365_1, hx365_2⟩ := at_T55 (Kd.R_reads' HO_8.out).2.2 (ji46) p365 q365
                                  cases e365
                                  replace p365 := eq_true p365
                                  replace q365 := eq_true q365
                                  have p366 : 0 ≤ ((ji46) : Int) := of_decide_eq_true (by first | (with_reducible assumption) | assumption)
                                  have q366 : (ji46) < (t350.length : Int) := of_decide_eq_true (by first | (with_reducible assumption) | assumption)
                                  obtain ⟨ad366, e366, hx366_0, hx366_1, hx366_2⟩ := at_T55 (Kd.R_reads' HO_8.out).2.2 (ji46) p366 q366
                                  obtain rfl : ad365 = ad366 := (by injection e366)
                                  replace p366 := eq_true p366
                                  replace q366 := eq_true q366
                                  have p367 : 0 ≤ ((ji46) : Int) := of_decide_eq_true (by first | (with_reducible assumption) | assumption)
                                  have q367 : (ji46) < (t350.length : Int) := of_decide_eq_true (by first | (with_reducible assumption) | assumption)
                                  obtain ⟨ad367, e367, hx367_0, hx367_1, hx367_2⟩ := at_T55 (Kd.R_reads' HO_8.out).2.2 (ji46) p367 q367
                                  obtain rfl : ad365 = ad367 := (by injection e367)
                                  replace p367 := eq_true p367
                                  replace q367 := eq_true q367
                                  go_wp2
                                  repeat (go_quiet (fail); try go_wp2)
                                  go_ret
                                  exact ⟨by first | rfl | (simp [errW_none, errW_some] <;> rfl) | (simp only [← hji46]; first | rfl | (simp [errW_none, errW_some] <;> rfl)) | (simp [*, errW_none, errW_some] <;> rfl), by repeat (first | (with_reducible first | exact HB.out | apply below_alloc | apply pw_below_drewN | apply below_drew1) | exact HB.out)⟩
                                · rw [if_neg c49] at H
                                  have c49b0 : (!(((rd_T55 t354 x12_3).f0) == ((rd_T55 t350 (ji46)).f0)) || (!(((rd_T55 t354 x12_3).f1) == (wrap64 (((rd_T55 t350 (ji46)).f1) + (a0.size : Int)))) || (!(((rd_T55 t354 x12_3).f2) == ((rd_T55 t350 (ji46)).f2))))) = false := by simpa using c49
                                  clear c49
                                  have H' := Aside0.mk H
                                  clear H
                                  obtain ⟨Ao53, co53, eo53⟩ := Kd.R_slice HO_10.out
                                  subst eo53
                                  obtain ⟨Ao54, co54, eo54⟩ := Kd.R_slice HO_6.out
                                  subst eo54
                                  have p364 : 0 ≤ (x12_3 : Int) := of_decide_eq_true (by first | (with_reducible assumption) | assumption)
                                  have q364 : x12_3 < (t354.length : Int) := of_decide_eq_true (by first | (with_reducible assumption) | assumption)
                                  obtain ⟨ad364, e364, hx364_0, hx364_1, hx364_2⟩ := at_T55 (Kd.R_reads' HO_10.out).2.2 x12_3 p364 q364
                                  cases e364
                                  replace p364 := eq_true p364
                                  replace q364 := eq_true q364
                                  obtain ⟨Ao55, co55, eo55⟩ := Kd.R_slice HO_8.out
                                  subst eo55
                                  have p365 : 0 ≤ ((ji46) : Int) := of_decide_eq_true (by first | (with_reducible assumption) | assumption)
                                  have q365 : (ji46) < (t350.length : Int) := of_decide_eq_true (by first | (with_reducible assumption) | assumption)
                                  obtain ⟨ad365, e365, hx365_0, hx365_1, hx365_2⟩ := at_T55 (Kd.R_reads' HO_8.out).2.2 (ji46) p365 q365
                                  cases e365
                                  replace p365 := eq_true p365
                                  replace q365 := eq_true q365
                                  have p366 : 0 ≤ ((ji46) : Int) := of_decide_eq_true (by first | (with_reducible assumption) | assumption)
                                  have q366 : (ji46) < (t350.length : Int) := of_decide_eq_true (by first | (with_reducible assumption) | assumption)
                                  obtain ⟨ad366, e366, hx366_0, hx366_1, hx366_2⟩ := at_T55 (Kd.R_reads' HO_8.out).2.2 (ji46) p366 q366
                                  obtain rfl : ad365 = ad366 := (by injection e366)
                                  replace p366 := eq_true p366
                                  replace q366 := eq_true q366
                                  have p367 : 0 ≤ ((ji46) : Int) := of_decide_eq_true (by first | (with_reducible assumption) | assumption)
                                  have q367 : (ji46) < (t350.length : Int) := of_decide_eq_true (by first | (with_reducible assumption) | assumption)
                                  obtain ⟨ad367, e367, hx367_0, hx367_1, hx367_2⟩ := at_T55 (Kd.R_reads' HO_8.out).2.2 (ji46) p367 q367
                                  obtain rfl : ad365 = ad367 := (by injection e367)
                                  replace p367 := eq_true p367
                                  replace q367 := eq_true q367
                                  go_wp2
                                  repeat (go_quiet (fail); try go_wp2)
                                  go_roundg k3
                                  case measure => have := HJ7.out; have := HJ18.out; have := HK3.out; omega
                                  case rel => exact ⟨(wrap64 (x12_3 + 1)), (by first | rfl | (simp; done) | (simp [*]; done)), H', ⟨by have := HJ7.out; have := HJ18.out; have := HK3.out; omega⟩, ⟨by (with_reducible repeat (first | apply Kd.R_alloc | apply Kd.R_drewN | apply Kd.R_drew)); exact HO_6.out⟩, ⟨by (with_reducible repeat (first | apply Kd.R_alloc | apply Kd.R_drewN | apply Kd.R_drew)); exact HO_8.out⟩, ⟨by (with_reducible repeat (first | apply Kd.R_alloc | apply Kd.R_drewN | apply Kd.R_drew)); exact HO_10.out⟩, ⟨by repeat (first | (with_reducible first | exact HB.out | apply below_alloc | apply pw_below_drewN | apply below_drew1) | exact HB.out)⟩⟩
                              · rw [if_neg c48] at H
                                exact absurd H (by simp)
                            · rw [if_neg c47] at H
                              exact absurd H (by simp)
                          · rw [if_neg c45] at H
                            exact absurd H (by simp)
                        · rw [if_neg c44] at H
                          have c44b0 : decide ((t346.length : Int) ≤ x12_3) = false := decide_eq_false c44
                          clear c44
                          have H' := Aside0.mk H
                          clear H
                          obtain ⟨Ao56, co56, eo56⟩ := Kd.R_slice HO_10.out
                          subst eo56
                          obtain ⟨Ao57, co57, eo57⟩ := Kd.R_slice HO_6.out
                          subst eo57
                          go_wp2
                          repeat (go_quiet (fail); try go_wp2)
                          go_roundg k3
                          case measure => have := HJ7.out; have := HJ18.out; have := HK3.out; omega
                          case rel => exact ⟨(wrap64 (x12_3 + 1)), (by first | rfl | (simp; done) | (simp [*]; done)), H', ⟨by have := HJ7.out; have := HJ18.out; have := HK3.out; omega⟩, ⟨by (with_reducible repeat (first | apply Kd.R_alloc | apply Kd.R_drewN | apply Kd.R_drew)); exact HO_6.out⟩, ⟨by (with_reducible repeat (first | apply Kd.R_alloc | apply Kd.R_drewN | apply Kd.R_drew)); exact HO_8.out⟩, ⟨by (with_reducible repeat (first | apply Kd.R_alloc | apply Kd.R_drewN | apply Kd.R_drew)); exact HO_10.out⟩, ⟨by repeat (first | (with_reducible first | exact HB.out | apply below_alloc | apply pw_below_drewN | apply below_drew1) | exact HB.out)⟩⟩
                    · rw [if_neg c25] at H
                      have c25b0 : decide (x12_3 < (t354.length : Int)) = false := decide_eq_false c25
                      clear c25
                      obtain rfl := Option.some.inj H
                      obtain ⟨Ao58, co58, eo58⟩ := Kd.R_slice HO_10.out
                      subst eo58
                      go_wp2
                      repeat (go_quiet (fail); try go_wp2)
                      go_ret
                      exact ⟨by first | rfl | (simp [errW_none, errW_some] <;> rfl) | (simp [*, errW_none, errW_some] <;> rfl), by repeat (first | (with_reducible first | exact HB.out | apply below_alloc | apply pw_below_drewN | apply below_drew1) | exact HB.out)⟩
  · rw [if_neg c6] at H
    exact absurd H (by simp)

/-- THE ONE PURE STATEMENT of regletlaw01_PhysParts: yours. -/
def regletlaw01_PhysParts.Pure : Prop := ∀ (a0 : ByteArray) (a1 : ByteArray), a0.size ≤ 140737488351232 → a1.size ≤ 140737488351232 → ∃ k, regletlaw01_PhysParts.f k a0 a1 = some true
theorem regletlaw01_PhysParts.walk (P : regletlaw01_PhysParts.Pure) (a0 : ByteArray) (a1 : ByteArray) (w : World) (w0 : a0.size ≤ 140737488351232) (w1 : a1.size ≤ 140737488351232) :
    Calls Try.prog 7 #[.string a0, .string a1] w fun e w' => e = .returned (.bool true) ∧ Below w.heap.size w w' := by
  obtain ⟨k, h⟩ := P a0 a1 w0 w1
  refine (regletlaw01_PhysParts.calls k a0 a1 true w h).mono ?_
  rintro e w' ⟨rfl, hd⟩
  exact ⟨rfl, hd⟩

end Go.Proofs.Ytonfmnohmigjpaa.P
