-- Written by wip/pr.py (the kit's printer, driven for functions that are proved by hand beside it).
import Derived.Test.YtonfmnohmigjpaaF0
import Derived.Test.YtonfmnohmigjpaaSq
import Derived.Test.YtonfmnohmigjpaaFD
import Derived.Test.YtonfmnohmigjpaaG53
import Derived.Test.YtonfmnohmigjpaaG56
namespace Go.Proofs.Ytonfmnohmigjpaa.P
open List (setIfInBounds_toArray set_cons_zero set_cons_succ)
open Go.RowKit Go.Proofs.YtonfmnohmigjpaaW.PrintWords Go.Proofs.YtonfmnohmigjpaaW.PrintLast Go.Proofs.YtonfmnohmigjpaaW.PrintMore
attribute [local go_sem] max2_int min2_int max_two min_two max_three min_three max_four min_four   -- for this text's walks alone
set_option linter.unusedVariables false
set_option linter.unusedSimpArgs false

/-! ### regletlaw02_ScanMunch: function 15 -/
mutual
def regletlaw02_ScanMunch.j0 : Nat → Bool → List (S26) → Bool → Option (Bool)
  | 0, _, _, _ => none
  | k + 1, x3, x4, x20 => if x20 = true then (some x3) else (regletlaw02_ScanMunch.l0 k x3 x4 1)
def regletlaw02_ScanMunch.l0 : Nat → Bool → List (S26) → Int → Option (Bool)
  | 0, _, _, _ => none
  | k + 1, x3, x4, x6 => if x6 < (x4.length : Int) then (if 0 ≤ x6 then (if (rd_T26 x4 x6).f4 = true then (regletlaw02_ScanMunch.j2 k x3 x4 x6 true) else (if ((rd_T26 x4 x6).f0) = 7 then (regletlaw02_ScanMunch.j2 k x3 x4 x6 true) else (if 0 ≤ (wrap64 (x6 - 1)) then (if (wrap64 (x6 - 1)) < (x4.length : Int) then (regletlaw02_ScanMunch.j2 k x3 x4 x6 (((rd_T26 x4 (wrap64 (x6 - 1))).f0) == 7)) else (none)) else (none)))) else (none)) else (some x3)
def regletlaw02_ScanMunch.j2 : Nat → Bool → List (S26) → Int → Bool → Option (Bool)
  | 0, _, _, _, _ => none
  | k + 1, x3, x4, x6, x49 => if x49 = true then (regletlaw02_ScanMunch.l0 k x3 x4 (wrap64 (x6 + 1))) else (if 0 ≤ (wrap64 (x6 - 1)) then (if (wrap64 (x6 - 1)) < (x4.length : Int) then (if 0 ≤ x6 then (if x6 < (x4.length : Int) then ((scan_Fuses.f ((rd_T26 x4 (wrap64 (x6 - 1))).f1) ((rd_T26 x4 x6).f1)).bind fun bt599 => (if bt599.2 = 0 then (if bt599.1 = true then (some false) else (regletlaw02_ScanMunch.l0 k x3 x4 (wrap64 (x6 + 1)))) else (some false))) else (none)) else (none)) else (none)) else (none))
end
def regletlaw02_ScanMunch.f (k : Nat) (a0 : ByteArray) : Option (Bool) := (regletlaw02_alive.f k).bind fun t589 => ((scan_Scan.f a0).bind fun bt590 => (if bt590.2 = 0 then (regletlaw02_ScanMunch.j0 k t589 bt590.1 (!t589)) else (regletlaw02_ScanMunch.j0 k t589 bt590.1 true)))
theorem regletlaw02_ScanMunch.mono_l : ∀ k, (∀ y0 y1 y2, LeO (regletlaw02_ScanMunch.j0 k y0 y1 y2) (regletlaw02_ScanMunch.j0 (k + 1) y0 y1 y2)) ∧ (∀ y0 y1 y2, LeO (regletlaw02_ScanMunch.l0 k y0 y1 y2) (regletlaw02_ScanMunch.l0 (k + 1) y0 y1 y2)) ∧ (∀ y0 y1 y2 y3, LeO (regletlaw02_ScanMunch.j2 k y0 y1 y2 y3) (regletlaw02_ScanMunch.j2 (k + 1) y0 y1 y2 y3))
  | 0 => ⟨fun _ _ _ r h => by simp [regletlaw02_ScanMunch.j0] at h, fun _ _ _ r h => by simp [regletlaw02_ScanMunch.l0] at h, fun _ _ _ _ r h => by simp [regletlaw02_ScanMunch.j2] at h⟩
  | k + 1 => by
    obtain ⟨ih0, ih1, ih2⟩ := regletlaw02_ScanMunch.mono_l k
    refine ⟨?_, ?_, ?_⟩
    · intro y0 y1 y2
      unfold regletlaw02_ScanMunch.j0
      repeat' first
      | (with_reducible exact ih0 _ _ _)
      | (with_reducible exact ih1 _ _ _)
      | (with_reducible exact ih2 _ _ _ _)
      | (with_reducible exact regletlaw02_alive.mono _)
      | (with_reducible exact LeO.refl _)
      | (with_reducible exact LeO.none _)
      | (with_reducible refine LeO.ite ?_ ?_)
      | (with_reducible refine LeO.bind ?_ (fun _ => ?_))
      | exact ih0 _ _ _
      | exact ih1 _ _ _
      | exact ih2 _ _ _ _
      | exact regletlaw02_alive.mono _
      | exact LeO.none _
      | refine LeO.ite ?_ ?_
      | refine LeO.bind ?_ (fun _ => ?_)
    · intro y0 y1 y2
      unfold regletlaw02_ScanMunch.l0
      repeat' first
      | (with_reducible exact ih0 _ _ _)
      | (with_reducible exact ih1 _ _ _)
      | (with_reducible exact ih2 _ _ _ _)
      | (with_reducible exact regletlaw02_alive.mono _)
      | (with_reducible exact LeO.refl _)
      | (with_reducible exact LeO.none _)
      | (with_reducible refine LeO.ite ?_ ?_)
      | (with_reducible refine LeO.bind ?_ (fun _ => ?_))
      | exact ih0 _ _ _
      | exact ih1 _ _ _
      | exact ih2 _ _ _ _
      | exact regletlaw02_alive.mono _
      | exact LeO.none _
      | refine LeO.ite ?_ ?_
      | refine LeO.bind ?_ (fun _ => ?_)
    · intro y0 y1 y2 y3
      unfold regletlaw02_ScanMunch.j2
      repeat' first
      | (with_reducible exact ih0 _ _ _)
      | (with_reducible exact ih1 _ _ _)
      | (with_reducible exact ih2 _ _ _ _)
      | (with_reducible exact regletlaw02_alive.mono _)
      | (with_reducible exact LeO.refl _)
      | (with_reducible exact LeO.none _)
      | (with_reducible refine LeO.ite ?_ ?_)
      | (with_reducible refine LeO.bind ?_ (fun _ => ?_))
      | exact ih0 _ _ _
      | exact ih1 _ _ _
      | exact ih2 _ _ _ _
      | exact regletlaw02_alive.mono _
      | exact LeO.none _
      | refine LeO.ite ?_ ?_
      | refine LeO.bind ?_ (fun _ => ?_)
theorem regletlaw02_ScanMunch.mono : ∀ a0 k, LeO (regletlaw02_ScanMunch.f k a0) (regletlaw02_ScanMunch.f (k + 1) a0) := by
  intro a0 k
  obtain ⟨ih0, ih1, ih2⟩ := regletlaw02_ScanMunch.mono_l k
  unfold regletlaw02_ScanMunch.f
  repeat' first
      | (with_reducible exact ih0 _ _ _)
      | (with_reducible exact ih1 _ _ _)
      | (with_reducible exact ih2 _ _ _ _)
      | (with_reducible exact regletlaw02_alive.mono _)
      | (with_reducible exact LeO.refl _)
      | (with_reducible exact LeO.none _)
      | (with_reducible refine LeO.ite ?_ ?_)
      | (with_reducible refine LeO.bind ?_ (fun _ => ?_))
      | exact ih0 _ _ _
      | exact ih1 _ _ _
      | exact ih2 _ _ _ _
      | exact regletlaw02_alive.mono _
      | exact LeO.none _
      | refine LeO.ite ?_ ?_
      | refine LeO.bind ?_ (fun _ => ?_)
def regletlaw02_ScanMunch.T9 : Bool × List (List Nat × List Nat) := (true, [([], []), ([], []), ([1], [1]), ([0, 2], [0, 2]), ([3], [3]), ([4], [4]), ([], []), ([], []), ([6, 7], [6, 7]), ([8], [8]), ([9], [9]), ([5, 10], [5, 10]), ([11], [11]), ([12], [12]), ([12], [12]), ([13, 11, 0, 1, 2, 3, 4, 5, 6, 7, 8, 9, 10, 11, 12, 13], [13]), ([14, 15, 0, 1, 2, 3, 4, 5, 6, 7, 8, 9, 10, 11, 12, 13, 14, 15], [14])])
def regletlaw02_ScanMunch.B9 : List Nat := [0, 0, 2, 7, 15, 31, 0, 0, 192, 448, 960, 2047, 4095, 8191, 8191, 16383, 65535]
theorem regletlaw02_ScanMunch.tab9 : rtab .any (opsOf Try.f15 9) = regletlaw02_ScanMunch.T9 := by kernel_rfl
theorem regletlaw02_ScanMunch.bits9 : waitsOk regletlaw02_ScanMunch.T9.2 regletlaw02_ScanMunch.B9 = true := by kernel_rfl
set_option maxHeartbeats 8000000 in
set_option maxRecDepth 100000 in
theorem regletlaw02_ScanMunch.calls (k : Nat) (a0 : ByteArray) (r : Bool) (w : World) (h : regletlaw02_ScanMunch.f k a0 = some r) (HM : HasMax w := by first | assumption | exact max_below (Aside0.out (by assumption)) (by assumption)) :
    Calls Try.prog 15 #[.string a0] w fun e w' => e = .returned (.bool r) ∧ Below w.heap.size w w' := by
  have HB := Aside0.mk (Below.refl w.heap.size w)
  have H : ((regletlaw02_alive.f k).bind fun t589 => ((scan_Scan.f a0).bind fun bt590 => (if bt590.2 = 0 then (regletlaw02_ScanMunch.j0 k t589 bt590.1 (!t589)) else (regletlaw02_ScanMunch.j0 k t589 bt590.1 true)))) = some r := h
  clear h
  replace H := Option.bind_eq_some_iff.mp H
  obtain ⟨t589, A20, H⟩ := H
  replace H : ((scan_Scan.f a0).bind fun bt590 => (if bt590.2 = 0 then (regletlaw02_ScanMunch.j0 k t589 bt590.1 (!t589)) else (regletlaw02_ScanMunch.j0 k t589 bt590.1 true))) = some r := H
  have A2 := Aside0.mk A20
  clear A20
  replace H := Option.bind_eq_some_iff.mp H
  obtain ⟨⟨t590, t591⟩, A30, H⟩ := H
  replace H : (if t591 = 0 then (regletlaw02_ScanMunch.j0 k t589 t590 (!t589)) else (regletlaw02_ScanMunch.j0 k t589 t590 true)) = some r := H
  have A3 := Aside0.mk A30
  clear A30
  have HC4 := Aside0.mk H
  clear H
  go_enter Try.func15, Try.ntmps15
  go_upto_region 3 with (first | ((with_reducible refine gate_callee (f := 55) rfl ?_); refine goesL_ (some 9) rfl rfl Try.func55 (by kernel_rfl) rfl #[] rfl (by (try simp only [List.map_toArray, List.map_cons, List.map_nil]); first | done | rfl | (simp only [List.length_drop, List.length_take]; rfl)) ?_; (with_reducible refine (regletlaw02_alive.calls k  t589 _ A2.out).mono ?_); rintro e w5 ⟨rfl, hb⟩; refine ⟨_, rfl, ?_⟩; have n0_ := Aside0.mk (below_step (by repeat (first | (with_reducible first | exact HB.out | apply below_alloc | apply pw_below_drewN | apply below_drew1) | exact HB.out)) hb); clear HB; have HB := n0_; clear n0_; (try clear hb); (try clear hb2); (try clear hk); (try clear hi)) | ((with_reducible refine gate_callee (f := 56) rfl ?_); refine goesL_ (some 12) rfl rfl Try.func56 (by kernel_rfl) rfl #[.string a0] rfl (by (try simp only [List.map_toArray, List.map_cons, List.map_nil]); first | done | rfl | (simp only [List.length_drop, List.length_take]; rfl)) ?_; (with_reducible refine (scan_Scan.calls a0 t590 t591 _ A3.out).mono ?_); rintro e w6 ⟨v592, rfl, ho0, hb⟩; refine ⟨_, rfl, ?_⟩; have n0_ := Aside0.mk (Kd.R_lower ho0 (below_size (by repeat (first | (with_reducible first | exact HB.out | apply below_alloc | apply pw_below_drewN | apply below_drew1) | exact HB.out)))); have n1_ := Aside0.mk (below_step (by repeat (first | (with_reducible first | exact HB.out | apply below_alloc | apply pw_below_drewN | apply below_drew1) | exact HB.out)) hb); clear HB; have HO593 := n0_; have HB := n1_; clear n0_ n1_; (try clear hb); (try clear hb2); (try clear hk); (try clear hi); (try clear ho0)))
  (try simp only [Act.put, List.setIfInBounds_toArray, List.set_cons_zero, List.set_cons_succ])
  go_cut [20] (fun v20 wc => ∃ (kq : Nat) (x20_3 : Bool), v20 = .bool x20_3 ∧ Aside0 (regletlaw02_ScanMunch.j0 kq t589 t590 x20_3 = some r) ∧ Aside0 (kq ≤ k) ∧ Aside0 (Kd.R k26 26 wc w.heap.size (fun _ => True) v592 t590) ∧ Aside0 (Below w.heap.size w wc))
  case first =>
    have H := HC4.out
    clear HC4
    by_cases c7 : t591 = 0
    · rw [if_pos c7] at H
      have c7b0 : (t591 == 0) = true := beq_iff_eq.mpr c7
      have c7b1 : (t591 != 0) = false := bne_eq_false_iff_eq.mpr c7
      clear c7
      (first | rw [c7b0] | (simp only [i64_w, i32_w]; rw [c7b0]) | skip)
      have H' := Aside0.mk H
      clear H
      go_wp2
      go_meet
      case rel => exact ⟨_, (!t589), (by first | rfl | (simp; done) | (simp [*]; done)), H', ⟨by first | omega | exact Nat.le_refl _⟩, ⟨by (with_reducible repeat (first | apply Kd.R_alloc | apply Kd.R_drewN | apply Kd.R_drew)); exact HO593.out⟩, ⟨by repeat (first | (with_reducible first | exact HB.out | apply below_alloc | apply pw_below_drewN | apply below_drew1) | exact HB.out)⟩⟩
    · rw [if_neg c7] at H
      have c7b0 : (t591 == 0) = false := beq_eq_false_iff_ne.mpr c7
      have c7b1 : (t591 != 0) = true := bne_iff_ne.mpr c7
      (first | rw [c7b0] | (simp only [i64_w, i32_w]; rw [c7b0]) | skip)
      have H' := Aside0.mk H
      clear H
      go_wp2
      go_meet
      case rel => exact ⟨_, (true), (by first | rfl | (simp; done) | (simp [*]; done)), H', ⟨by first | omega | exact Nat.le_refl _⟩, ⟨by (with_reducible repeat (first | apply Kd.R_alloc | apply Kd.R_drewN | apply Kd.R_drew)); exact HO593.out⟩, ⟨by repeat (first | (with_reducible first | exact HB.out | apply below_alloc | apply pw_below_drewN | apply below_drew1) | exact HB.out)⟩⟩
  case rest =>
    clear HC4
    try clear c1
    try clear p2
    try clear c5
    try clear c7
    try clear c7b0
    try clear c7b1
    obtain ⟨kq, x20_3, rfl, HA, HJ3, HO_4, HB⟩ := hcut
    cases kq with
    | zero => exact absurd HA.out (by simp [regletlaw02_ScanMunch.j0])
    | succ kj3 =>
      have H := HA.out
      clear HA
      simp only [regletlaw02_ScanMunch.j0] at H
      by_cases c8 : x20_3 = true
      · subst c8
        have H1 : (some t589) = some r := by rw [if_pos rfl] at H; exact H
        clear H
        have H := H1
        clear H1
        obtain rfl := Option.some.inj H
        go_wp2
        go_ret
        exact ⟨by first | rfl | (simp [errW_none, errW_some] <;> rfl) | (simp [*, errW_none, errW_some] <;> rfl), by repeat (first | (with_reducible first | exact HB.out | apply below_alloc | apply pw_below_drewN | apply below_drew1) | exact HB.out)⟩
      · replace c8 := Bool.eq_false_iff.mpr c8
        subst c8
        have H1 : (regletlaw02_ScanMunch.l0 kj3 t589 t590 1) = some r := by rw [if_neg (show ¬ (false = true) by decide)] at H; exact H
        clear H
        have H := H1
        clear H1
        have H' := Aside0.mk H
        clear H
        go_wp2
        go_loopg [6] kj3 (fun kq v6 w' => ∃ (x6_2 : Int), v6 = .int .i64 x6_2 ∧ Aside0 (regletlaw02_ScanMunch.l0 kq t589 t590 x6_2 = some r) ∧ Aside0 (kq ≤ kj3) ∧ Aside0 (Kd.R k26 26 w' w.heap.size (fun _ => True) v592 t590) ∧ Aside0 (Below w.heap.size w w'))
        case atStart => exact ⟨(1), (by first | rfl | (simp; done) | (simp [*]; done)), H', ⟨Nat.le_refl _⟩, ⟨by (with_reducible repeat (first | apply Kd.R_alloc | apply Kd.R_drewN | apply Kd.R_drew)); exact HO_4.out⟩, ⟨by repeat (first | (with_reducible first | exact HB.out | apply below_alloc | apply pw_below_drewN | apply below_drew1) | exact HB.out)⟩⟩
        case round =>
          clear H'
          try clear c1
          try clear p2
          try clear c5
          try clear c7
          try clear c7b0
          try clear c7b1
          try clear c8
          try clear p2
          obtain ⟨x6_2, rfl, HA, HK2, HO_4, HB⟩ := hrel
          cases gk with
          | zero => exact absurd HA.out (by simp [regletlaw02_ScanMunch.l0])
          | succ k2 =>
            have H := HA.out
            clear HA
            simp only [regletlaw02_ScanMunch.l0] at H
            by_cases c9 : x6_2 < (t590.length : Int)
            · rw [if_pos c9] at H
              have c9b0 : decide (x6_2 < (t590.length : Int)) = true := decide_eq_true c9
              clear c9
              have HC10 := Aside0.mk H
              clear H
              obtain ⟨Ao11, co11, eo11⟩ := Kd.R_slice HO_4.out
              subst eo11
              go_upto_region 8 with (fail)
              go_cut [49] (fun v49 wc => ∃ (kq : Nat) (x49_9 : Bool), v49 = .bool x49_9 ∧ Aside0 (regletlaw02_ScanMunch.j2 kq t589 t590 x6_2 x49_9 = some r) ∧ Aside0 (kq ≤ k2) ∧ Aside0 (Kd.R k26 26 wc w.heap.size (fun _ => True) (.slice Ao11 t590.length co11) t590) ∧ Aside0 (Below w.heap.size w wc))
              case first =>
                have H := HC10.out
                clear HC10
                by_cases c12 : 0 ≤ x6_2
                · rw [if_pos c12] at H
                  have c12b0 : decide (0 ≤ x6_2) = true := decide_eq_true c12
                  clear c12
                  (first | rw [c12b0] | (simp only [i64_w, i32_w]; rw [c12b0]) | skip)
                  obtain ⟨bq13, hbq13⟩ : ∃ b_ : Bool, b_ = ((rd_T26 t590 x6_2).f4) := ⟨_, rfl⟩
                  replace H : (if bq13 = true then (regletlaw02_ScanMunch.j2 k2 t589 t590 x6_2 true) else (if ((rd_T26 t590 x6_2).f0) = 7 then (regletlaw02_ScanMunch.j2 k2 t589 t590 x6_2 true) else (if 0 ≤ (wrap64 (x6_2 - 1)) then (if (wrap64 (x6_2 - 1)) < (t590.length : Int) then (regletlaw02_ScanMunch.j2 k2 t589 t590 x6_2 (((rd_T26 t590 (wrap64 (x6_2 - 1))).f0) == 7)) else (none)) else (none)))) = some r := by rw [← hbq13] at H; exact H
                  have Nbq13 := Aside0.mk hbq13
                  clear hbq13
                  by_cases c14 : bq13 = true
                  · subst c14
                    have H1 : (regletlaw02_ScanMunch.j2 k2 t589 t590 x6_2 true) = some r := by rw [if_pos rfl] at H; exact H
                    clear H
                    have H := H1
                    clear H1
                    have H' := Aside0.mk H
                    clear H
                    have p594 : 0 ≤ (x6_2 : Int) := of_decide_eq_true (by first | (with_reducible assumption) | assumption)
                    have q594 : x6_2 < (t590.length : Int) := of_decide_eq_true (by first | (with_reducible assumption) | assumption)
                    obtain ⟨ad594, e594, hx594_0, hx594_1, hx594_2, hx594_3, hx594_4⟩ := at_T26 (Kd.R_reads' HO_4.out).2.2 x6_2 p594 q594
                    (try rw [← Nbq13.out] at hx594_4)
                    cases e594
                    replace p594 := eq_true p594
                    replace q594 := eq_true q594
                    go_wp2
                    go_meet
                    case rel => exact ⟨_, (true), (by first | rfl | (simp; done) | (simp [*]; done)), H', ⟨by have := HJ3.out; have := HK2.out; first | omega | exact Nat.le_refl _⟩, ⟨by (with_reducible repeat (first | apply Kd.R_alloc | apply Kd.R_drewN | apply Kd.R_drew)); exact HO_4.out⟩, ⟨by repeat (first | (with_reducible first | exact HB.out | apply below_alloc | apply pw_below_drewN | apply below_drew1) | exact HB.out)⟩⟩
                  · replace c14 := Bool.eq_false_iff.mpr c14
                    subst c14
                    have H1 : (if ((rd_T26 t590 x6_2).f0) = 7 then (regletlaw02_ScanMunch.j2 k2 t589 t590 x6_2 true) else (if 0 ≤ (wrap64 (x6_2 - 1)) then (if (wrap64 (x6_2 - 1)) < (t590.length : Int) then (regletlaw02_ScanMunch.j2 k2 t589 t590 x6_2 (((rd_T26 t590 (wrap64 (x6_2 - 1))).f0) == 7)) else (none)) else (none))) = some r := by rw [if_neg (show ¬ (false = true) by decide)] at H; exact H
                    clear H
                    have H := H1
                    clear H1
                    by_cases c15 : ((rd_T26 t590 x6_2).f0) = 7
                    · rw [if_pos c15] at H
                      have c15b0 : (((rd_T26 t590 x6_2).f0) == 7) = true := beq_iff_eq.mpr c15
                      have c15b1 : (((rd_T26 t590 x6_2).f0) != 7) = false := bne_eq_false_iff_eq.mpr c15
                      clear c15
                      have H' := Aside0.mk H
                      clear H
                      have p594 : 0 ≤ (x6_2 : Int) := of_decide_eq_true (by first | (with_reducible assumption) | assumption)
                      have q594 : x6_2 < (t590.length : Int) := of_decide_eq_true (by first | (with_reducible assumption) | assumption)
                      obtain ⟨ad594, e594, hx594_0, hx594_1, hx594_2, hx594_3, hx594_4⟩ := at_T26 (Kd.R_reads' HO_4.out).2.2 x6_2 p594 q594
                      (try rw [← Nbq13.out] at hx594_4)
                      cases e594
                      replace p594 := eq_true p594
                      replace q594 := eq_true q594
                      have p595 : 0 ≤ (x6_2 : Int) := of_decide_eq_true (by first | (with_reducible assumption) | assumption)
                      have q595 : x6_2 < (t590.length : Int) := of_decide_eq_true (by first | (with_reducible assumption) | assumption)
                      obtain ⟨ad595, e595, hx595_0, hx595_1, hx595_2, hx595_3, hx595_4⟩ := at_T26 (Kd.R_reads' HO_4.out).2.2 x6_2 p595 q595
                      (try rw [← Nbq13.out] at hx595_4)
                      obtain rfl : ad594 = ad595 := (by injection e595)
                      replace p595 := eq_true p595
                      replace q595 := eq_true q595
                      go_wp2
                      go_meet
                      case rel => exact ⟨_, (true), (by first | rfl | (simp; done) | (simp [*]; done)), H', ⟨by have := HJ3.out; have := HK2.out; first | omega | exact Nat.le_refl _⟩, ⟨by (with_reducible repeat (first | apply Kd.R_alloc | apply Kd.R_drewN | apply Kd.R_drew)); exact HO_4.out⟩, ⟨by repeat (first | (with_reducible first | exact HB.out | apply below_alloc | apply pw_below_drewN | apply below_drew1) | exact HB.out)⟩⟩
                    · rw [if_neg c15] at H
                      have c15b0 : (((rd_T26 t590 x6_2).f0) == 7) = false := beq_eq_false_iff_ne.mpr c15
                      have c15b1 : (((rd_T26 t590 x6_2).f0) != 7) = true := bne_iff_ne.mpr c15
                      obtain ⟨ji16, hji16⟩ : ∃ j_ : Int, (wrap64 (x6_2 - 1)) = j_ := ⟨_, rfl⟩
                      replace H : (if 0 ≤ (ji16) then (if (ji16) < (t590.length : Int) then (regletlaw02_ScanMunch.j2 k2 t589 t590 x6_2 (((rd_T26 t590 (ji16)).f0) == 7)) else (none)) else (none)) = some r := by first | (rw [hji16] at H; exact H) | (simp only [hji16] at H ⊢; exact H)
                      have hji16w : (IntKind.i64.wrap (x6_2 - 1)) = ji16 := (i64_w _).trans hji16
                      by_cases c17 : 0 ≤ (ji16)
                      · rw [if_pos c17] at H
                        have c17b0 : decide (0 ≤ (ji16)) = true := decide_eq_true c17
                        clear c17
                        by_cases c18 : (ji16) < (t590.length : Int)
                        · rw [if_pos c18] at H
                          have c18b0 : decide ((ji16) < (t590.length : Int)) = true := decide_eq_true c18
                          clear c18
                          have H' := Aside0.mk H
                          clear H
                          have p594 : 0 ≤ (x6_2 : Int) := of_decide_eq_true (by first | (with_reducible assumption) | assumption)
                          have q594 : x6_2 < (t590.length : Int) := of_decide_eq_true (by first | (with_reducible assumption) | assumption)
                          obtain ⟨ad594, e594, hx594_0, hx594_1, hx594_2, hx594_3, hx594_4⟩ := at_T26 (Kd.R_reads' HO_4.out).2.2 x6_2 p594 q594
                          (try rw [← Nbq13.out] at hx594_4)
                          cases e594
                          replace p594 := eq_true p594
                          replace q594 := eq_true q594
                          have p595 : 0 ≤ (x6_2 : Int) := of_decide_eq_true (by first | (with_reducible assumption) | assumption)
                          have q595 : x6_2 < (t590.length : Int) := of_decide_eq_true (by first | (with_reducible assumption) | assumption)
                          obtain ⟨ad595, e595, hx595_0, hx595_1, hx595_2, hx595_3, hx595_4⟩ := at_T26 (Kd.R_reads' HO_4.out).2.2 x6_2 p595 q595
                          (try rw [← Nbq13.out] at hx595_4)
                          obtain rfl : ad594 = ad595 := (by injection e595)
                          replace p595 := eq_true p595
                          replace q595 := eq_true q595
                          have p596 : 0 ≤ ((ji16) : Int) := of_decide_eq_true (by first | (with_reducible assumption) | assumption)
                          have q596 : (ji16) < (t590.length : Int) := of_decide_eq_true (by first | (with_reducible assumption) | assumption)
                          obtain ⟨ad596, e596, hx596_0, hx596_1, hx596_2, hx596_3, hx596_4⟩ := at_T26 (Kd.R_reads' HO_4.out).2.2 (ji16) p596 q596
                          (try rw [← Nbq13.out] at hx596_4)
                          obtain rfl : ad594 = ad596 := (by injection e596)
                          replace p596 := eq_true p596
                          replace q596 := eq_true q596
                          go_wp2
                          go_meet
                          case rel => exact ⟨_, ((((rd_T26 t590 (ji16)).f0) == 7)), (by first | rfl | (simp; done) | (simp only [← hji16] <;> (first | rfl | simp)) | (simp [*]; done)), H', ⟨by have := HJ3.out; have := HK2.out; first | omega | exact Nat.le_refl _⟩, ⟨by (with_reducible repeat (first | apply Kd.R_alloc | apply Kd.R_drewN | apply Kd.R_drew)); exact HO_4.out⟩, ⟨by repeat (first | (with_reducible first | exact HB.out | apply below_alloc | apply pw_below_drewN | apply below_drew1) | exact HB.out)⟩⟩
                        · rw [if_neg c18] at H
                          exact absurd H (by simp)
                      · rw [if_neg c17] at H
                        exact absurd H (by simp)
                · rw [if_neg c12] at H
                  exact absurd H (by simp)
              case rest =>
                clear HC10
                try clear c1
                try clear q1
                try clear p2
                try clear c5
                try clear p5
                try clear q5
                try clear hx5
                try clear p6
                try clear c7
                try clear c7b0
                try clear c7b1
                try clear c8
                try clear c9
                try clear c9b0
                try clear c12
                try clear c12b0
                try clear q13
                try clear c14
                try clear c15
                try clear c15b0
                try clear c15b1
                try clear c17
                try clear c17b0
                try clear c18
                try clear c18b0
                try clear hx594_0
                try clear hx594_1
                try clear hx594_2
                try clear hx594_3
                try clear hx594_4
                try clear hx595_0
                try clear hx595_1
                try clear hx595_2
                try clear hx595_3
                try clear hx595_4
                try clear hx596_0
                try clear hx596_1
                try clear hx596_2
                try clear hx596_3
                try clear hx596_4
                try clear p2
                try clear p594
                try clear p595
                try clear p596
                try clear q594
                try clear q595
                try clear q596
                obtain ⟨kq, x49_9, rfl, HA, HJ9, HO_4, HB⟩ := hcut
                cases kq with
                | zero => exact absurd HA.out (by simp [regletlaw02_ScanMunch.j2])
                | succ kj9 =>
                  have H := HA.out
                  clear HA
                  simp only [regletlaw02_ScanMunch.j2] at H
                  by_cases c19 : x49_9 = true
                  · subst c19
                    have H1 : (regletlaw02_ScanMunch.l0 kj9 t589 t590 (wrap64 (x6_2 + 1))) = some r := by rw [if_pos rfl] at H; exact H
                    clear H
                    have H := H1
                    clear H1
                    have H' := Aside0.mk H
                    clear H
                    go_wp2
                    go_roundg kj9
                    case measure => have := HJ3.out; have := HK2.out; have := HJ9.out; omega
                    case rel => exact ⟨(wrap64 (x6_2 + 1)), (by first | rfl | (simp; done) | (simp [*]; done)), H', ⟨by have := HJ3.out; have := HK2.out; have := HJ9.out; omega⟩, ⟨by (with_reducible repeat (first | apply Kd.R_alloc | apply Kd.R_drewN | apply Kd.R_drew)); exact HO_4.out⟩, ⟨by repeat (first | (with_reducible first | exact HB.out | apply below_alloc | apply pw_below_drewN | apply below_drew1) | exact HB.out)⟩⟩
                  · replace c19 := Bool.eq_false_iff.mpr c19
                    subst c19
                    have H1 : (if 0 ≤ (wrap64 (x6_2 - 1)) then (if (wrap64 (x6_2 - 1)) < (t590.length : Int) then (if 0 ≤ x6_2 then (if x6_2 < (t590.length : Int) then ((scan_Fuses.f ((rd_T26 t590 (wrap64 (x6_2 - 1))).f1) ((rd_T26 t590 x6_2).f1)).bind fun bt599 => (if bt599.2 = 0 then (if bt599.1 = true then (some false) else (regletlaw02_ScanMunch.l0 kj9 t589 t590 (wrap64 (x6_2 + 1)))) else (some false))) else (none)) else (none)) else (none)) else (none)) = some r := by rw [if_neg (show ¬ (false = true) by decide)] at H; exact H
                    clear H
                    have H := H1
                    clear H1
                    obtain ⟨ji20, hji20⟩ : ∃ j_ : Int, (wrap64 (x6_2 - 1)) = j_ := ⟨_, rfl⟩
                    replace H : (if 0 ≤ (ji20) then (if (ji20) < (t590.length : Int) then (if 0 ≤ x6_2 then (if x6_2 < (t590.length : Int) then ((scan_Fuses.f ((rd_T26 t590 (ji20)).f1) ((rd_T26 t590 x6_2).f1)).bind fun bt599 => (if bt599.2 = 0 then (if bt599.1 = true then (some false) else (regletlaw02_ScanMunch.l0 kj9 t589 t590 (wrap64 (x6_2 + 1)))) else (some false))) else (none)) else (none)) else (none)) else (none)) = some r := by first | (rw [hji20] at H; exact H) | (simp only [hji20] at H ⊢; exact H)
                    have hji20w : (IntKind.i64.wrap (x6_2 - 1)) = ji20 := (i64_w _).trans hji20
                    by_cases c21 : 0 ≤ (ji20)
                    · rw [if_pos c21] at H
                      have c21b0 : decide (0 ≤ (ji20)) = true := decide_eq_true c21
                      clear c21
                      by_cases c22 : (ji20) < (t590.length : Int)
                      · rw [if_pos c22] at H
                        have c22b0 : decide ((ji20) < (t590.length : Int)) = true := decide_eq_true c22
                        clear c22
                        by_cases c23 : 0 ≤ x6_2
                        · rw [if_pos c23] at H
                          have c23b0 : decide (0 ≤ x6_2) = true := decide_eq_true c23
                          clear c23
                          by_cases c24 : x6_2 < (t590.length : Int)
                          · rw [if_pos c24] at H
                            have c24b0 : decide (x6_2 < (t590.length : Int)) = true := decide_eq_true c24
                            clear c24
                            replace H := Option.bind_eq_some_iff.mp H
                            obtain ⟨⟨t599, t600⟩, A250, H⟩ := H
                            replace H : (if t600 = 0 then (if t599 = true then (some false) else (regletlaw02_ScanMunch.l0 kj9 t589 t590 (wrap64 (x6_2 + 1)))) else (some false)) = some r := H
                            have A25 := Aside0.mk A250
                            clear A250
                            by_cases c26 : t600 = 0
                            · rw [if_pos c26] at H
                              have c26b0 : (t600 == 0) = true := beq_iff_eq.mpr c26
                              have c26b1 : (t600 != 0) = false := bne_eq_false_iff_eq.mpr c26
                              clear c26
                              by_cases c27 : t599 = true
                              · subst c27
                                have H1 : (some false) = some r := by rw [if_pos rfl] at H; exact H
                                clear H
                                have H := H1
                                clear H1
                                obtain rfl := Option.some.inj H
                                try go_wp2
                                have n0_ := Aside0.mk (Kd.R_drew HO_4.out)
                                have n1_ := Aside0.mk (below_drew1 HB.out)
                                clear HO_4
                                clear HB
                                have HO_4 := n0_
                                have HB := n1_
                                clear n0_ n1_
                                have p597 : 0 ≤ ((ji20) : Int) := of_decide_eq_true (by first | (with_reducible assumption) | assumption)
                                have q597 : (ji20) < (t590.length : Int) := of_decide_eq_true (by first | (with_reducible assumption) | assumption)
                                obtain ⟨ad597, e597, hx597_0, hx597_1, hx597_2, hx597_3, hx597_4⟩ := at_T26 (Kd.R_reads' HO_4.out).2.2 (ji20) p597 q597
                                cases e597
                                replace p597 := eq_true p597
                                replace q597 := eq_true q597
                                have p598 : 0 ≤ (x6_2 : Int) := of_decide_eq_true (by first | (with_reducible assumption) | assumption)
                                have q598 : x6_2 < (t590.length : Int) := of_decide_eq_true (by first | (with_reducible assumption) | assumption)
                                obtain ⟨ad598, e598, hx598_0, hx598_1, hx598_2, hx598_3, hx598_4⟩ := at_T26 (Kd.R_reads' HO_4.out).2.2 x6_2 p598 q598
                                obtain rfl : ad597 = ad598 := (by injection e598)
                                replace p598 := eq_true p598
                                replace q598 := eq_true q598
                                refine start_ (n := 17) (S := fun w' => w'.cell? (ad597.add (((ji20)).toNat * 5)) = some (.int .i64 ((rd_T26 t590 (ji20)).f0)) ∧ w'.cell? ⟨(ad597.add (((ji20)).toNat * 5)).block, (ad597.add (((ji20)).toNat * 5)).off + 1, none⟩ = some (.string ((rd_T26 t590 (ji20)).f1)) ∧ w'.cell? ⟨(ad597.add (((ji20)).toNat * 5)).block, (ad597.add (((ji20)).toNat * 5)).off + 2, none⟩ = some (.int .i64 ((rd_T26 t590 (ji20)).f2)) ∧ w'.cell? ⟨(ad597.add (((ji20)).toNat * 5)).block, (ad597.add (((ji20)).toNat * 5)).off + 3, none⟩ = some (.int .i64 ((rd_T26 t590 (ji20)).f3)) ∧ w'.cell? ⟨(ad597.add (((ji20)).toNat * 5)).block, (ad597.add (((ji20)).toNat * 5)).off + 4, none⟩ = some (.bool ((rd_T26 t590 (ji20)).f4)) ∧ w'.cell? (ad597.add ((x6_2).toNat * 5)) = some (.int .i64 ((rd_T26 t590 x6_2).f0)) ∧ w'.cell? ⟨(ad597.add ((x6_2).toNat * 5)).block, (ad597.add ((x6_2).toNat * 5)).off + 1, none⟩ = some (.string ((rd_T26 t590 x6_2).f1)) ∧ w'.cell? ⟨(ad597.add ((x6_2).toNat * 5)).block, (ad597.add ((x6_2).toNat * 5)).off + 2, none⟩ = some (.int .i64 ((rd_T26 t590 x6_2).f2)) ∧ w'.cell? ⟨(ad597.add ((x6_2).toNat * 5)).block, (ad597.add ((x6_2).toNat * 5)).off + 3, none⟩ = some (.int .i64 ((rd_T26 t590 x6_2).f3)) ∧ w'.cell? ⟨(ad597.add ((x6_2).toNat * 5)).block, (ad597.add ((x6_2).toNat * 5)).off + 4, none⟩ = some (.bool ((rd_T26 t590 x6_2).f4))) (ds := []) (bA 17 0) (by kernel_rfl) rfl rfl ⟨hx597_0, hx597_1, hx597_2, hx597_3, hx597_4, hx598_0, hx598_1, hx598_2, hx598_3, hx598_4⟩ (fun hHeld => ?_); refine with_tabW regletlaw02_ScanMunch.tab9 regletlaw02_ScanMunch.bits9 (fun HT_ HW_ => ?_)
                                generalize wc.drew = w28 at HO_4 HB hx597_0 hx597_1 hx597_2 hx597_3 hx597_4 hx598_0 hx598_1 hx598_2 hx598_3 hx598_4 hHeld ⊢
                                refine pure_ (i := 0) (N := some 51) (v := ?_) (a' := ?_) (bA 17 1) rfl rfl (any_of HT_.out (by kernel_rfl)) (fun _ _ _ h => h) (Or.inl ⟨by rfl, ?_⟩) ?_ ?_; rotate_left; (intro w'; go_simp; with_reducible rfl); rotate_left; (simp only [Act.put, setIfInBounds_toArray, set_cons_zero, set_cons_succ, i64_w, i32_w]; rfl)
                                refine pure_ (i := 1) (N := some 52) (v := ?_) (a' := ?_) (bA 17 3) rfl rfl (any_of HT_.out (by kernel_rfl)) (fun _ _ _ h => h) (Or.inl ⟨by rfl, ?_⟩) ?_ ?_; rotate_left; (intro w'; go_simp; with_reducible rfl); rotate_left; (simp only [Act.put, setIfInBounds_toArray, set_cons_zero, set_cons_succ, i64_w, i32_w]; rfl)
                                refine pure_ (i := 2) (N := some 53) (v := ?_) (a' := ?_) (bA 17 7) rfl rfl (any_of HT_.out (by kernel_rfl)) (fun _ _ _ h => h) (Or.inl ⟨by rfl, ?_⟩) ?_ ?_; rotate_left; (intro w'; go_simp; with_reducible rfl); rotate_left; (simp only [Act.put, setIfInBounds_toArray, set_cons_zero, set_cons_succ, i64_w, i32_w]; rfl)
                                refine pure_ (i := 3) (N := some 54) (v := ?_) (a' := ?_) (bA 17 15) rfl rfl (any_of HT_.out (by kernel_rfl)) (fun _ _ _ h => h) (Or.inl ⟨by rfl, ?_⟩) ?_ ?_; rotate_left; (intro w'; go_simp; with_reducible rfl); rotate_left; (simp only [Act.put, setIfInBounds_toArray, set_cons_zero, set_cons_succ, i64_w, i32_w]; rfl)
                                refine pure_ (i := 4) (N := some 55) (v := ?_) (a' := ?_) (bA 17 31) rfl rfl (any_of HT_.out (by kernel_rfl)) (fun _ _ _ h => h) (Or.inl ⟨by rfl, ?_⟩) ?_ ?_; rotate_left; (intro w'; go_simp; with_reducible rfl); rotate_left; (simp only [Act.put, setIfInBounds_toArray, set_cons_zero, set_cons_succ, i64_w, i32_w]; rfl)
                                refine pure_ (i := 6) (N := some 57) (v := ?_) (a' := ?_) (bA 17 95) rfl rfl (any_of HT_.out (by kernel_rfl)) (fun _ _ _ h => h) (Or.inl ⟨by rfl, ?_⟩) ?_ ?_; rotate_left; (intro w'; go_simp; with_reducible rfl); rotate_left; (simp only [Act.put, setIfInBounds_toArray, set_cons_zero, set_cons_succ, i64_w, i32_w]; rfl)
                                refine pure_ (i := 7) (N := some 58) (v := ?_) (a' := ?_) (bA 17 223) rfl rfl (any_of HT_.out (by kernel_rfl)) (fun _ _ _ h => h) (Or.inl ⟨by rfl, ?_⟩) ?_ ?_; rotate_left; (intro w'; go_simp; with_reducible rfl); rotate_left; (simp only [Act.put, setIfInBounds_toArray, set_cons_zero, set_cons_succ, i64_w, i32_w]; rfl)
                                refine pure_ (i := 8) (N := some 59) (v := ?_) (a' := ?_) (bA 17 479) rfl rfl (any_of HT_.out (by kernel_rfl)) (fun _ _ _ h => h) (Or.inl ⟨by rfl, ?_⟩) ?_ ?_; rotate_left; (intro w'; go_simp; with_reducible rfl); rotate_left; (simp only [Act.put, setIfInBounds_toArray, set_cons_zero, set_cons_succ, i64_w, i32_w]; rfl)
                                refine pure_ (i := 9) (N := some 60) (v := ?_) (a' := ?_) (bA 17 991) rfl rfl (any_of HT_.out (by kernel_rfl)) (fun _ _ _ h => h) (Or.inl ⟨by rfl, ?_⟩) ?_ ?_; rotate_left; (intro w'; go_simp; with_reducible rfl); rotate_left; (simp only [Act.put, setIfInBounds_toArray, set_cons_zero, set_cons_succ, i64_w, i32_w]; rfl)
                                refine take_ (i := 5) (N := some 56) (v := ?_) (a' := ?_) (bA 17 1023) rfl rfl (take_ofW HT_.out HW_.out (by kernel_rfl)) (fun _ _ _ h => h) (Or.inl ⟨by rfl, ?_⟩) hHeld ?_ ?_; rotate_left; (rintro w' ⟨s0, s1, s2, s3, s4, s5, s6, s7, s8, s9⟩; go_simp; with_reducible rfl); rotate_left; (simp only [Act.put, setIfInBounds_toArray, set_cons_zero, set_cons_succ, i64_w, i32_w]; rfl)
                                refine take_ (i := 10) (N := some 61) (v := ?_) (a' := ?_) (bA 17 2047) rfl rfl (take_ofW HT_.out HW_.out (by kernel_rfl)) (fun _ _ _ h => h) (Or.inl ⟨by rfl, ?_⟩) hHeld ?_ ?_; rotate_left; (rintro w' ⟨s0, s1, s2, s3, s4, s5, s6, s7, s8, s9⟩; go_simp; with_reducible rfl); rotate_left; (simp only [Act.put, setIfInBounds_toArray, set_cons_zero, set_cons_succ, i64_w, i32_w]; rfl)
                                refine one_ (i := 11) (N := some 62) (bA 17 4095) rfl rfl (one_of HT_.out (by kernel_rfl)) (by decide) (fun K hK => ?_)
                                refine goes_ Try.func53 (by kernel_rfl) rfl #[.string ((rd_T26 t590 (ji20)).f1), .string ((rd_T26 t590 x6_2).f1)] (by rfl) rfl rfl (by (try simp only [List.map_toArray, List.map_cons, List.map_nil]); first | done | (simp only [hji20]; rfl) | rfl | (simp only [List.length_drop, List.length_take]; rfl)) ?_
                                with_reducible refine (scan_Fuses.calls ((rd_T26 t590 (ji20)).f1) ((rd_T26 t590 x6_2).f1) true t600 _ A25.out).mono ?_
                                rintro e w29 ⟨rfl, hb⟩
                                have HS0_ := (hb.cell (World.block_lt_of_cell? _ _ (hHeld.1))).trans (hHeld.1)
                                have HS1_ := (hb.cell (World.block_lt_of_cell? _ _ (hHeld.2.1))).trans (hHeld.2.1)
                                have HS2_ := (hb.cell (World.block_lt_of_cell? _ _ (hHeld.2.2.1))).trans (hHeld.2.2.1)
                                have HS3_ := (hb.cell (World.block_lt_of_cell? _ _ (hHeld.2.2.2.1))).trans (hHeld.2.2.2.1)
                                have HS4_ := (hb.cell (World.block_lt_of_cell? _ _ (hHeld.2.2.2.2.1))).trans (hHeld.2.2.2.2.1)
                                have HS5_ := (hb.cell (World.block_lt_of_cell? _ _ (hHeld.2.2.2.2.2.1))).trans (hHeld.2.2.2.2.2.1)
                                have HS6_ := (hb.cell (World.block_lt_of_cell? _ _ (hHeld.2.2.2.2.2.2.1))).trans (hHeld.2.2.2.2.2.2.1)
                                have HS7_ := (hb.cell (World.block_lt_of_cell? _ _ (hHeld.2.2.2.2.2.2.2.1))).trans (hHeld.2.2.2.2.2.2.2.1)
                                have HS8_ := (hb.cell (World.block_lt_of_cell? _ _ (hHeld.2.2.2.2.2.2.2.2.1))).trans (hHeld.2.2.2.2.2.2.2.2.1)
                                have HS9_ := (hb.cell (World.block_lt_of_cell? _ _ (hHeld.2.2.2.2.2.2.2.2.2))).trans (hHeld.2.2.2.2.2.2.2.2.2)
                                refine ⟨_, rfl, ?_⟩
                                have n0_ := Aside0.mk (Kd.R_below (by (with_reducible repeat (first | apply Kd.R_alloc | apply Kd.R_drewN | apply Kd.R_drew)); exact HO_4.out) hb)
                                have n1_ := Aside0.mk (below_step (by repeat (first | (with_reducible first | exact HB.out | apply below_alloc | apply pw_below_drewN | apply below_drew1) | exact HB.out)) hb)
                                clear HO_4
                                clear HB
                                have HO_4 := n0_
                                have HB := n1_
                                clear n0_ n1_
                                (try clear hb)
                                (try clear hb2)
                                (try clear hk)
                                (try clear hi)
                                refine hK.out _ _ ⟨HS0_, HS1_, HS2_, HS3_, HS4_, HS5_, HS6_, HS7_, HS8_, HS9_⟩ (fun hHeld => ?_)
                                clear hK K
                                refine norm_ (a' := ?_) ?_ ?_
                                rotate_left
                                · show Act.put _ (some 62) _ = _
                                  simp only [Act.put, setIfInBounds_toArray, set_cons_zero, set_cons_succ, i64_w, i32_w]
                                  rfl
                                refine pure_ (i := 12) (N := some 50) (v := ?_) (a' := ?_) (bA 17 8191) rfl rfl (any_of HT_.out (by kernel_rfl)) (fun _ _ _ h => h) (Or.inl ⟨by rfl, ?_⟩) ?_ ?_; rotate_left; (intro w'; go_simp; with_reducible rfl); rotate_left; (simp only [Act.put, setIfInBounds_toArray, set_cons_zero, set_cons_succ, i64_w, i32_w]; rfl)
                                refine pure_ (i := 13) (N := some 63) (v := ?_) (a' := ?_) (bA 17 16383) rfl rfl (any_of HT_.out (by kernel_rfl)) (fun _ _ _ h => h) (Or.inl ⟨by rfl, ?_⟩) ?_ ?_; rotate_left; (intro w'; go_simp; with_reducible rfl); rotate_left; (simp only [Act.put, setIfInBounds_toArray, set_cons_zero, set_cons_succ, i64_w, i32_w]; rfl)
                                refine pure_ (i := 14) (N := some 64) (v := ?_) (a' := ?_) (bA 17 32767) rfl rfl (any_of HT_.out (by kernel_rfl)) (fun _ _ _ h => h) (Or.inl ⟨by rfl, ?_⟩) ?_ ?_; rotate_left; (intro w'; go_simp; with_reducible rfl); rotate_left; (simp only [Act.put, setIfInBounds_toArray, set_cons_zero, set_cons_succ, i64_w, i32_w]; rfl)
                                refine pure_ (i := 15) (N := some 7) (v := ?_) (a' := ?_) (bA 17 65535) rfl rfl (any_of HT_.out (by kernel_rfl)) (fun _ _ _ h => h) (Or.inl ⟨by rfl, ?_⟩) ?_ ?_; rotate_left; (intro w'; go_simp; with_reducible rfl); rotate_left; (simp only [Act.put, setIfInBounds_toArray, set_cons_zero, set_cons_succ, i64_w, i32_w]; rfl)
                                refine pure_ (i := 16) (N := some 8) (v := ?_) (a' := ?_) (bA 17 131071) rfl rfl (any_of HT_.out (by kernel_rfl)) (fun _ _ _ h => h) (Or.inl ⟨by rfl, ?_⟩) ?_ ?_; rotate_left; (intro w'; go_simp; with_reducible rfl); rotate_left; (simp only [Act.put, setIfInBounds_toArray, set_cons_zero, set_cons_succ, i64_w, i32_w]; rfl)
                                refine done_ (done_of HT_.out (by kernel_rfl)) ?_
                                try go_wp2
                                go_ret
                                exact ⟨by first | rfl | (simp [errW_none, errW_some] <;> rfl) | (simp only [← hji20]; first | rfl | (simp [errW_none, errW_some] <;> rfl)) | (simp [*, errW_none, errW_some] <;> rfl), by repeat (first | (with_reducible first | exact HB.out | apply below_alloc | apply pw_below_drewN | apply below_drew1) | exact HB.out)⟩
                              · replace c27 := Bool.eq_false_iff.mpr c27
                                subst c27
                                have H1 : (regletlaw02_ScanMunch.l0 kj9 t589 t590 (wrap64 (x6_2 + 1))) = some r := by rw [if_neg (show ¬ (false = true) by decide)] at H; exact H
                                clear H
                                have H := H1
                                clear H1
                                have H' := Aside0.mk H
                                clear H
                                try go_wp2
                                have n0_ := Aside0.mk (Kd.R_drew HO_4.out)
                                have n1_ := Aside0.mk (below_drew1 HB.out)
                                clear HO_4
                                clear HB
                                have HO_4 := n0_
                                have HB := n1_
                                clear n0_ n1_
                                have p597 : 0 ≤ ((ji20) : Int) := of_decide_eq_true (by first | (with_reducible assumption) | assumption)
                                have q597 : (ji20) < (t590.length : Int) := of_decide_eq_true (by first | (with_reducible assumption) | assumption)
                                obtain ⟨ad597, e597, hx597_0, hx597_1, hx597_2, hx597_3, hx597_4⟩ := at_T26 (Kd.R_reads' HO_4.out).2.2 (ji20) p597 q597
                                cases e597
                                replace p597 := eq_true p597
                                replace q597 := eq_true q597
                                have p598 : 0 ≤ (x6_2 : Int) := of_decide_eq_true (by first | (with_reducible assumption) | assumption)
                                have q598 : x6_2 < (t590.length : Int) := of_decide_eq_true (by first | (with_reducible assumption) | assumption)
                                obtain ⟨ad598, e598, hx598_0, hx598_1, hx598_2, hx598_3, hx598_4⟩ := at_T26 (Kd.R_reads' HO_4.out).2.2 x6_2 p598 q598
                                obtain rfl : ad597 = ad598 := (by injection e598)
                                replace p598 := eq_true p598
                                replace q598 := eq_true q598
                                refine start_ (n := 17) (S := fun w' => w'.cell? (ad597.add (((ji20)).toNat * 5)) = some (.int .i64 ((rd_T26 t590 (ji20)).f0)) ∧ w'.cell? ⟨(ad597.add (((ji20)).toNat * 5)).block, (ad597.add (((ji20)).toNat * 5)).off + 1, none⟩ = some (.string ((rd_T26 t590 (ji20)).f1)) ∧ w'.cell? ⟨(ad597.add (((ji20)).toNat * 5)).block, (ad597.add (((ji20)).toNat * 5)).off + 2, none⟩ = some (.int .i64 ((rd_T26 t590 (ji20)).f2)) ∧ w'.cell? ⟨(ad597.add (((ji20)).toNat * 5)).block, (ad597.add (((ji20)).toNat * 5)).off + 3, none⟩ = some (.int .i64 ((rd_T26 t590 (ji20)).f3)) ∧ w'.cell? ⟨(ad597.add (((ji20)).toNat * 5)).block, (ad597.add (((ji20)).toNat * 5)).off + 4, none⟩ = some (.bool ((rd_T26 t590 (ji20)).f4)) ∧ w'.cell? (ad597.add ((x6_2).toNat * 5)) = some (.int .i64 ((rd_T26 t590 x6_2).f0)) ∧ w'.cell? ⟨(ad597.add ((x6_2).toNat * 5)).block, (ad597.add ((x6_2).toNat * 5)).off + 1, none⟩ = some (.string ((rd_T26 t590 x6_2).f1)) ∧ w'.cell? ⟨(ad597.add ((x6_2).toNat * 5)).block, (ad597.add ((x6_2).toNat * 5)).off + 2, none⟩ = some (.int .i64 ((rd_T26 t590 x6_2).f2)) ∧ w'.cell? ⟨(ad597.add ((x6_2).toNat * 5)).block, (ad597.add ((x6_2).toNat * 5)).off + 3, none⟩ = some (.int .i64 ((rd_T26 t590 x6_2).f3)) ∧ w'.cell? ⟨(ad597.add ((x6_2).toNat * 5)).block, (ad597.add ((x6_2).toNat * 5)).off + 4, none⟩ = some (.bool ((rd_T26 t590 x6_2).f4))) (ds := []) (bA 17 0) (by kernel_rfl) rfl rfl ⟨hx597_0, hx597_1, hx597_2, hx597_3, hx597_4, hx598_0, hx598_1, hx598_2, hx598_3, hx598_4⟩ (fun hHeld => ?_); refine with_tabW regletlaw02_ScanMunch.tab9 regletlaw02_ScanMunch.bits9 (fun HT_ HW_ => ?_)
                                generalize wc.drew = w30 at HO_4 HB hx597_0 hx597_1 hx597_2 hx597_3 hx597_4 hx598_0 hx598_1 hx598_2 hx598_3 hx598_4 hHeld ⊢
                                refine pure_ (i := 0) (N := some 51) (v := ?_) (a' := ?_) (bA 17 1) rfl rfl (any_of HT_.out (by kernel_rfl)) (fun _ _ _ h => h) (Or.inl ⟨by rfl, ?_⟩) ?_ ?_; rotate_left; (intro w'; go_simp; with_reducible rfl); rotate_left; (simp only [Act.put, setIfInBounds_toArray, set_cons_zero, set_cons_succ, i64_w, i32_w]; rfl)
                                refine pure_ (i := 1) (N := some 52) (v := ?_) (a' := ?_) (bA 17 3) rfl rfl (any_of HT_.out (by kernel_rfl)) (fun _ _ _ h => h) (Or.inl ⟨by rfl, ?_⟩) ?_ ?_; rotate_left; (intro w'; go_simp; with_reducible rfl); rotate_left; (simp only [Act.put, setIfInBounds_toArray, set_cons_zero, set_cons_succ, i64_w, i32_w]; rfl)
                                refine pure_ (i := 2) (N := some 53) (v := ?_) (a' := ?_) (bA 17 7) rfl rfl (any_of HT_.out (by kernel_rfl)) (fun _ _ _ h => h) (Or.inl ⟨by rfl, ?_⟩) ?_ ?_; rotate_left; (intro w'; go_simp; with_reducible rfl); rotate_left; (simp only [Act.put, setIfInBounds_toArray, set_cons_zero, set_cons_succ, i64_w, i32_w]; rfl)
                                refine pure_ (i := 3) (N := some 54) (v := ?_) (a' := ?_) (bA 17 15) rfl rfl (any_of HT_.out (by kernel_rfl)) (fun _ _ _ h => h) (Or.inl ⟨by rfl, ?_⟩) ?_ ?_; rotate_left; (intro w'; go_simp; with_reducible rfl); rotate_left; (simp only [Act.put, setIfInBounds_toArray, set_cons_zero, set_cons_succ, i64_w, i32_w]; rfl)
                                refine pure_ (i := 4) (N := some 55) (v := ?_) (a' := ?_) (bA 17 31) rfl rfl (any_of HT_.out (by kernel_rfl)) (fun _ _ _ h => h) (Or.inl ⟨by rfl, ?_⟩) ?_ ?_; rotate_left; (intro w'; go_simp; with_reducible rfl); rotate_left; (simp only [Act.put, setIfInBounds_toArray, set_cons_zero, set_cons_succ, i64_w, i32_w]; rfl)
                                refine pure_ (i := 6) (N := some 57) (v := ?_) (a' := ?_) (bA 17 95) rfl rfl (any_of HT_.out (by kernel_rfl)) (fun _ _ _ h => h) (Or.inl ⟨by rfl, ?_⟩) ?_ ?_; rotate_left; (intro w'; go_simp; with_reducible rfl); rotate_left; (simp only [Act.put, setIfInBounds_toArray, set_cons_zero, set_cons_succ, i64_w, i32_w]; rfl)
                                refine pure_ (i := 7) (N := some 58) (v := ?_) (a' := ?_) (bA 17 223) rfl rfl (any_of HT_.out (by kernel_rfl)) (fun _ _ _ h => h) (Or.inl ⟨by rfl, ?_⟩) ?_ ?_; rotate_left; (intro w'; go_simp; with_reducible rfl); rotate_left; (simp only [Act.put, setIfInBounds_toArray, set_cons_zero, set_cons_succ, i64_w, i32_w]; rfl)
                                refine pure_ (i := 8) (N := some 59) (v := ?_) (a' := ?_) (bA 17 479) rfl rfl (any_of HT_.out (by kernel_rfl)) (fun _ _ _ h => h) (Or.inl ⟨by rfl, ?_⟩) ?_ ?_; rotate_left; (intro w'; go_simp; with_reducible rfl); rotate_left; (simp only [Act.put, setIfInBounds_toArray, set_cons_zero, set_cons_succ, i64_w, i32_w]; rfl)
                                refine pure_ (i := 9) (N := some 60) (v := ?_) (a' := ?_) (bA 17 991) rfl rfl (any_of HT_.out (by kernel_rfl)) (fun _ _ _ h => h) (Or.inl ⟨by rfl, ?_⟩) ?_ ?_; rotate_left; (intro w'; go_simp; with_reducible rfl); rotate_left; (simp only [Act.put, setIfInBounds_toArray, set_cons_zero, set_cons_succ, i64_w, i32_w]; rfl)
                                refine take_ (i := 5) (N := some 56) (v := ?_) (a' := ?_) (bA 17 1023) rfl rfl (take_ofW HT_.out HW_.out (by kernel_rfl)) (fun _ _ _ h => h) (Or.inl ⟨by rfl, ?_⟩) hHeld ?_ ?_; rotate_left; (rintro w' ⟨s0, s1, s2, s3, s4, s5, s6, s7, s8, s9⟩; go_simp; with_reducible rfl); rotate_left; (simp only [Act.put, setIfInBounds_toArray, set_cons_zero, set_cons_succ, i64_w, i32_w]; rfl)
                                refine take_ (i := 10) (N := some 61) (v := ?_) (a' := ?_) (bA 17 2047) rfl rfl (take_ofW HT_.out HW_.out (by kernel_rfl)) (fun _ _ _ h => h) (Or.inl ⟨by rfl, ?_⟩) hHeld ?_ ?_; rotate_left; (rintro w' ⟨s0, s1, s2, s3, s4, s5, s6, s7, s8, s9⟩; go_simp; with_reducible rfl); rotate_left; (simp only [Act.put, setIfInBounds_toArray, set_cons_zero, set_cons_succ, i64_w, i32_w]; rfl)
                                refine one_ (i := 11) (N := some 62) (bA 17 4095) rfl rfl (one_of HT_.out (by kernel_rfl)) (by decide) (fun K hK => ?_)
                                refine goes_ Try.func53 (by kernel_rfl) rfl #[.string ((rd_T26 t590 (ji20)).f1), .string ((rd_T26 t590 x6_2).f1)] (by rfl) rfl rfl (by (try simp only [List.map_toArray, List.map_cons, List.map_nil]); first | done | (simp only [hji20]; rfl) | rfl | (simp only [List.length_drop, List.length_take]; rfl)) ?_
                                with_reducible refine (scan_Fuses.calls ((rd_T26 t590 (ji20)).f1) ((rd_T26 t590 x6_2).f1) false t600 _ A25.out).mono ?_
                                rintro e w31 ⟨rfl, hb⟩
                                have HS0_ := (hb.cell (World.block_lt_of_cell? _ _ (hHeld.1))).trans (hHeld.1)
                                have HS1_ := (hb.cell (World.block_lt_of_cell? _ _ (hHeld.2.1))).trans (hHeld.2.1)
                                have HS2_ := (hb.cell (World.block_lt_of_cell? _ _ (hHeld.2.2.1))).trans (hHeld.2.2.1)
                                have HS3_ := (hb.cell (World.block_lt_of_cell? _ _ (hHeld.2.2.2.1))).trans (hHeld.2.2.2.1)
                                have HS4_ := (hb.cell (World.block_lt_of_cell? _ _ (hHeld.2.2.2.2.1))).trans (hHeld.2.2.2.2.1)
                                have HS5_ := (hb.cell (World.block_lt_of_cell? _ _ (hHeld.2.2.2.2.2.1))).trans (hHeld.2.2.2.2.2.1)
                                have HS6_ := (hb.cell (World.block_lt_of_cell? _ _ (hHeld.2.2.2.2.2.2.1))).trans (hHeld.2.2.2.2.2.2.1)
                                have HS7_ := (hb.cell (World.block_lt_of_cell? _ _ (hHeld.2.2.2.2.2.2.2.1))).trans (hHeld.2.2.2.2.2.2.2.1)
                                have HS8_ := (hb.cell (World.block_lt_of_cell? _ _ (hHeld.2.2.2.2.2.2.2.2.1))).trans (hHeld.2.2.2.2.2.2.2.2.1)
                                have HS9_ := (hb.cell (World.block_lt_of_cell? _ _ (hHeld.2.2.2.2.2.2.2.2.2))).trans (hHeld.2.2.2.2.2.2.2.2.2)
                                refine ⟨_, rfl, ?_⟩
                                have n0_ := Aside0.mk (Kd.R_below (by (with_reducible repeat (first | apply Kd.R_alloc | apply Kd.R_drewN | apply Kd.R_drew)); exact HO_4.out) hb)
                                have n1_ := Aside0.mk (below_step (by repeat (first | (with_reducible first | exact HB.out | apply below_alloc | apply pw_below_drewN | apply below_drew1) | exact HB.out)) hb)
                                clear HO_4
                                clear HB
                                have HO_4 := n0_
                                have HB := n1_
                                clear n0_ n1_
                                (try clear hb)
                                (try clear hb2)
                                (try clear hk)
                                (try clear hi)
                                refine hK.out _ _ ⟨HS0_, HS1_, HS2_, HS3_, HS4_, HS5_, HS6_, HS7_, HS8_, HS9_⟩ (fun hHeld => ?_)
                                clear hK K
                                refine norm_ (a' := ?_) ?_ ?_
                                rotate_left
                                · show Act.put _ (some 62) _ = _
                                  simp only [Act.put, setIfInBounds_toArray, set_cons_zero, set_cons_succ, i64_w, i32_w]
                                  rfl
                                refine pure_ (i := 12) (N := some 50) (v := ?_) (a' := ?_) (bA 17 8191) rfl rfl (any_of HT_.out (by kernel_rfl)) (fun _ _ _ h => h) (Or.inl ⟨by rfl, ?_⟩) ?_ ?_; rotate_left; (intro w'; go_simp; with_reducible rfl); rotate_left; (simp only [Act.put, setIfInBounds_toArray, set_cons_zero, set_cons_succ, i64_w, i32_w]; rfl)
                                refine pure_ (i := 13) (N := some 63) (v := ?_) (a' := ?_) (bA 17 16383) rfl rfl (any_of HT_.out (by kernel_rfl)) (fun _ _ _ h => h) (Or.inl ⟨by rfl, ?_⟩) ?_ ?_; rotate_left; (intro w'; go_simp; with_reducible rfl); rotate_left; (simp only [Act.put, setIfInBounds_toArray, set_cons_zero, set_cons_succ, i64_w, i32_w]; rfl)
                                refine pure_ (i := 14) (N := some 64) (v := ?_) (a' := ?_) (bA 17 32767) rfl rfl (any_of HT_.out (by kernel_rfl)) (fun _ _ _ h => h) (Or.inl ⟨by rfl, ?_⟩) ?_ ?_; rotate_left; (intro w'; go_simp; with_reducible rfl); rotate_left; (simp only [Act.put, setIfInBounds_toArray, set_cons_zero, set_cons_succ, i64_w, i32_w]; rfl)
                                refine pure_ (i := 15) (N := some 7) (v := ?_) (a' := ?_) (bA 17 65535) rfl rfl (any_of HT_.out (by kernel_rfl)) (fun _ _ _ h => h) (Or.inl ⟨by rfl, ?_⟩) ?_ ?_; rotate_left; (intro w'; go_simp; with_reducible rfl); rotate_left; (simp only [Act.put, setIfInBounds_toArray, set_cons_zero, set_cons_succ, i64_w, i32_w]; rfl)
                                refine pure_ (i := 16) (N := some 8) (v := ?_) (a' := ?_) (bA 17 131071) rfl rfl (any_of HT_.out (by kernel_rfl)) (fun _ _ _ h => h) (Or.inl ⟨by rfl, ?_⟩) ?_ ?_; rotate_left; (intro w'; go_simp; with_reducible rfl); rotate_left; (simp only [Act.put, setIfInBounds_toArray, set_cons_zero, set_cons_succ, i64_w, i32_w]; rfl)
                                refine done_ (done_of HT_.out (by kernel_rfl)) ?_
                                try go_wp2
                                go_roundg kj9
                                case measure => have := HJ3.out; have := HK2.out; have := HJ9.out; omega
                                case rel => exact ⟨(wrap64 (x6_2 + 1)), (by first | rfl | (simp; done) | (simp [*]; done)), H', ⟨by have := HJ3.out; have := HK2.out; have := HJ9.out; omega⟩, ⟨by (with_reducible repeat (first | apply Kd.R_alloc | apply Kd.R_drewN | apply Kd.R_drew)); exact HO_4.out⟩, ⟨by repeat (first | (with_reducible first | exact HB.out | apply below_alloc | apply pw_below_drewN | apply below_drew1) | exact HB.out)⟩⟩
                            · rw [if_neg c26] at H
                              have c26b0 : (t600 == 0) = false := beq_eq_false_iff_ne.mpr c26
                              have c26b1 : (t600 != 0) = true := bne_iff_ne.mpr c26
                              obtain rfl := Option.some.inj H
                              try go_wp2
                              have n0_ := Aside0.mk (Kd.R_drew HO_4.out)
                              have n1_ := Aside0.mk (below_drew1 HB.out)
                              clear HO_4
                              clear HB
                              have HO_4 := n0_
                              have HB := n1_
                              clear n0_ n1_
                              have p597 : 0 ≤ ((ji20) : Int) := of_decide_eq_true (by first | (with_reducible assumption) | assumption)
                              have q597 : (ji20) < (t590.length : Int) := of_decide_eq_true (by first | (with_reducible assumption) | assumption)
                              obtain ⟨ad597, e597, hx597_0, hx597_1, hx597_2, hx597_3, hx597_4⟩ := at_T26 (Kd.R_reads' HO_4.out).2.2 (ji20) p597 q597
                              cases e597
                              replace p597 := eq_true p597
                              replace q597 := eq_true q597
                              have p598 : 0 ≤ (x6_2 : Int) := of_decide_eq_true (by first | (with_reducible assumption) | assumption)
                              have q598 : x6_2 < (t590.length : Int) := of_decide_eq_true (by first | (with_reducible assumption) | assumption)
                              obtain ⟨ad598, e598, hx598_0, hx598_1, hx598_2, hx598_3, hx598_4⟩ := at_T26 (Kd.R_reads' HO_4.out).2.2 x6_2 p598 q598
                              obtain rfl : ad597 = ad598 := (by injection e598)
                              replace p598 := eq_true p598
                              replace q598 := eq_true q598
                              refine start_ (n := 17) (S := fun w' => w'.cell? (ad597.add (((ji20)).toNat * 5)) = some (.int .i64 ((rd_T26 t590 (ji20)).f0)) ∧ w'.cell? ⟨(ad597.add (((ji20)).toNat * 5)).block, (ad597.add (((ji20)).toNat * 5)).off + 1, none⟩ = some (.string ((rd_T26 t590 (ji20)).f1)) ∧ w'.cell? ⟨(ad597.add (((ji20)).toNat * 5)).block, (ad597.add (((ji20)).toNat * 5)).off + 2, none⟩ = some (.int .i64 ((rd_T26 t590 (ji20)).f2)) ∧ w'.cell? ⟨(ad597.add (((ji20)).toNat * 5)).block, (ad597.add (((ji20)).toNat * 5)).off + 3, none⟩ = some (.int .i64 ((rd_T26 t590 (ji20)).f3)) ∧ w'.cell? ⟨(ad597.add (((ji20)).toNat * 5)).block, (ad597.add (((ji20)).toNat * 5)).off + 4, none⟩ = some (.bool ((rd_T26 t590 (ji20)).f4)) ∧ w'.cell? (ad597.add ((x6_2).toNat * 5)) = some (.int .i64 ((rd_T26 t590 x6_2).f0)) ∧ w'.cell? ⟨(ad597.add ((x6_2).toNat * 5)).block, (ad597.add ((x6_2).toNat * 5)).off + 1, none⟩ = some (.string ((rd_T26 t590 x6_2).f1)) ∧ w'.cell? ⟨(ad597.add ((x6_2).toNat * 5)).block, (ad597.add ((x6_2).toNat * 5)).off + 2, none⟩ = some (.int .i64 ((rd_T26 t590 x6_2).f2)) ∧ w'.cell? ⟨(ad597.add ((x6_2).toNat * 5)).block, (ad597.add ((x6_2).toNat * 5)).off + 3, none⟩ = some (.int .i64 ((rd_T26 t590 x6_2).f3)) ∧ w'.cell? ⟨(ad597.add ((x6_2).toNat * 5)).block, (ad597.add ((x6_2).toNat * 5)).off + 4, none⟩ = some (.bool ((rd_T26 t590 x6_2).f4))) (ds := []) (bA 17 0) (by kernel_rfl) rfl rfl ⟨hx597_0, hx597_1, hx597_2, hx597_3, hx597_4, hx598_0, hx598_1, hx598_2, hx598_3, hx598_4⟩ (fun hHeld => ?_); refine with_tabW regletlaw02_ScanMunch.tab9 regletlaw02_ScanMunch.bits9 (fun HT_ HW_ => ?_)
                              generalize wc.drew = w32 at HO_4 HB hx597_0 hx597_1 hx597_2 hx597_3 hx597_4 hx598_0 hx598_1 hx598_2 hx598_3 hx598_4 hHeld ⊢
                              refine pure_ (i := 0) (N := some 51) (v := ?_) (a' := ?_) (bA 17 1) rfl rfl (any_of HT_.out (by kernel_rfl)) (fun _ _ _ h => h) (Or.inl ⟨by rfl, ?_⟩) ?_ ?_; rotate_left; (intro w'; go_simp; with_reducible rfl); rotate_left; (simp only [Act.put, setIfInBounds_toArray, set_cons_zero, set_cons_succ, i64_w, i32_w]; rfl)
                              refine pure_ (i := 1) (N := some 52) (v := ?_) (a' := ?_) (bA 17 3) rfl rfl (any_of HT_.out (by kernel_rfl)) (fun _ _ _ h => h) (Or.inl ⟨by rfl, ?_⟩) ?_ ?_; rotate_left; (intro w'; go_simp; with_reducible rfl); rotate_left; (simp only [Act.put, setIfInBounds_toArray, set_cons_zero, set_cons_succ, i64_w, i32_w]; rfl)
                              refine pure_ (i := 2) (N := some 53) (v := ?_) (a' := ?_) (bA 17 7) rfl rfl (any_of HT_.out (by kernel_rfl)) (fun _ _ _ h => h) (Or.inl ⟨by rfl, ?_⟩) ?_ ?_; rotate_left; (intro w'; go_simp; with_reducible rfl); rotate_left; (simp only [Act.put, setIfInBounds_toArray, set_cons_zero, set_cons_succ, i64_w, i32_w]; rfl)
                              refine pure_ (i := 3) (N := some 54) (v := ?_) (a' := ?_) (bA 17 15) rfl rfl (any_of HT_.out (by kernel_rfl)) (fun _ _ _ h => h) (Or.inl ⟨by rfl, ?_⟩) ?_ ?_; rotate_left; (intro w'; go_simp; with_reducible rfl); rotate_left; (simp only [Act.put, setIfInBounds_toArray, set_cons_zero, set_cons_succ, i64_w, i32_w]; rfl)
                              refine pure_ (i := 4) (N := some 55) (v := ?_) (a' := ?_) (bA 17 31) rfl rfl (any_of HT_.out (by kernel_rfl)) (fun _ _ _ h => h) (Or.inl ⟨by rfl, ?_⟩) ?_ ?_; rotate_left; (intro w'; go_simp; with_reducible rfl); rotate_left; (simp only [Act.put, setIfInBounds_toArray, set_cons_zero, set_cons_succ, i64_w, i32_w]; rfl)
                              refine pure_ (i := 6) (N := some 57) (v := ?_) (a' := ?_) (bA 17 95) rfl rfl (any_of HT_.out (by kernel_rfl)) (fun _ _ _ h => h) (Or.inl ⟨by rfl, ?_⟩) ?_ ?_; rotate_left; (intro w'; go_simp; with_reducible rfl); rotate_left; (simp only [Act.put, setIfInBounds_toArray, set_cons_zero, set_cons_succ, i64_w, i32_w]; rfl)
                              refine pure_ (i := 7) (N := some 58) (v := ?_) (a' := ?_) (bA 17 223) rfl rfl (any_of HT_.out (by kernel_rfl)) (fun _ _ _ h => h) (Or.inl ⟨by rfl, ?_⟩) ?_ ?_; rotate_left; (intro w'; go_simp; with_reducible rfl); rotate_left; (simp only [Act.put, setIfInBounds_toArray, set_cons_zero, set_cons_succ, i64_w, i32_w]; rfl)
                              refine pure_ (i := 8) (N := some 59) (v := ?_) (a' := ?_) (bA 17 479) rfl rfl (any_of HT_.out (by kernel_rfl)) (fun _ _ _ h => h) (Or.inl ⟨by rfl, ?_⟩) ?_ ?_; rotate_left; (intro w'; go_simp; with_reducible rfl); rotate_left; (simp only [Act.put, setIfInBounds_toArray, set_cons_zero, set_cons_succ, i64_w, i32_w]; rfl)
                              refine pure_ (i := 9) (N := some 60) (v := ?_) (a' := ?_) (bA 17 991) rfl rfl (any_of HT_.out (by kernel_rfl)) (fun _ _ _ h => h) (Or.inl ⟨by rfl, ?_⟩) ?_ ?_; rotate_left; (intro w'; go_simp; with_reducible rfl); rotate_left; (simp only [Act.put, setIfInBounds_toArray, set_cons_zero, set_cons_succ, i64_w, i32_w]; rfl)
                              refine take_ (i := 5) (N := some 56) (v := ?_) (a' := ?_) (bA 17 1023) rfl rfl (take_ofW HT_.out HW_.out (by kernel_rfl)) (fun _ _ _ h => h) (Or.inl ⟨by rfl, ?_⟩) hHeld ?_ ?_; rotate_left; (rintro w' ⟨s0, s1, s2, s3, s4, s5, s6, s7, s8, s9⟩; go_simp; with_reducible rfl); rotate_left; (simp only [Act.put, setIfInBounds_toArray, set_cons_zero, set_cons_succ, i64_w, i32_w]; rfl)
                              refine take_ (i := 10) (N := some 61) (v := ?_) (a' := ?_) (bA 17 2047) rfl rfl (take_ofW HT_.out HW_.out (by kernel_rfl)) (fun _ _ _ h => h) (Or.inl ⟨by rfl, ?_⟩) hHeld ?_ ?_; rotate_left; (rintro w' ⟨s0, s1, s2, s3, s4, s5, s6, s7, s8, s9⟩; go_simp; with_reducible rfl); rotate_left; (simp only [Act.put, setIfInBounds_toArray, set_cons_zero, set_cons_succ, i64_w, i32_w]; rfl)
                              refine one_ (i := 11) (N := some 62) (bA 17 4095) rfl rfl (one_of HT_.out (by kernel_rfl)) (by decide) (fun K hK => ?_)
                              refine goes_ Try.func53 (by kernel_rfl) rfl #[.string ((rd_T26 t590 (ji20)).f1), .string ((rd_T26 t590 x6_2).f1)] (by rfl) rfl rfl (by (try simp only [List.map_toArray, List.map_cons, List.map_nil]); first | done | (simp only [hji20]; rfl) | rfl | (simp only [List.length_drop, List.length_take]; rfl)) ?_
                              with_reducible refine (scan_Fuses.calls ((rd_T26 t590 (ji20)).f1) ((rd_T26 t590 x6_2).f1) t599 t600 _ A25.out).mono ?_
                              rintro e w33 ⟨rfl, hb⟩
                              have HS0_ := (hb.cell (World.block_lt_of_cell? _ _ (hHeld.1))).trans (hHeld.1)
                              have HS1_ := (hb.cell (World.block_lt_of_cell? _ _ (hHeld.2.1))).trans (hHeld.2.1)
                              have HS2_ := (hb.cell (World.block_lt_of_cell? _ _ (hHeld.2.2.1))).trans (hHeld.2.2.1)
                              have HS3_ := (hb.cell (World.block_lt_of_cell? _ _ (hHeld.2.2.2.1))).trans (hHeld.2.2.2.1)
                              have HS4_ := (hb.cell (World.block_lt_of_cell? _ _ (hHeld.2.2.2.2.1))).trans (hHeld.2.2.2.2.1)
                              have HS5_ := (hb.cell (World.block_lt_of_cell? _ _ (hHeld.2.2.2.2.2.1))).trans (hHeld.2.2.2.2.2.1)
                              have HS6_ := (hb.cell (World.block_lt_of_cell? _ _ (hHeld.2.2.2.2.2.2.1))).trans (hHeld.2.2.2.2.2.2.1)
                              have HS7_ := (hb.cell (World.block_lt_of_cell? _ _ (hHeld.2.2.2.2.2.2.2.1))).trans (hHeld.2.2.2.2.2.2.2.1)
                              have HS8_ := (hb.cell (World.block_lt_of_cell? _ _ (hHeld.2.2.2.2.2.2.2.2.1))).trans (hHeld.2.2.2.2.2.2.2.2.1)
                              have HS9_ := (hb.cell (World.block_lt_of_cell? _ _ (hHeld.2.2.2.2.2.2.2.2.2))).trans (hHeld.2.2.2.2.2.2.2.2.2)
                              refine ⟨_, rfl, ?_⟩
                              have n0_ := Aside0.mk (Kd.R_below (by (with_reducible repeat (first | apply Kd.R_alloc | apply Kd.R_drewN | apply Kd.R_drew)); exact HO_4.out) hb)
                              have n1_ := Aside0.mk (below_step (by repeat (first | (with_reducible first | exact HB.out | apply below_alloc | apply pw_below_drewN | apply below_drew1) | exact HB.out)) hb)
                              clear HO_4
                              clear HB
                              have HO_4 := n0_
                              have HB := n1_
                              clear n0_ n1_
                              (try clear hb)
                              (try clear hb2)
                              (try clear hk)
                              (try clear hi)
                              refine hK.out _ _ ⟨HS0_, HS1_, HS2_, HS3_, HS4_, HS5_, HS6_, HS7_, HS8_, HS9_⟩ (fun hHeld => ?_)
                              clear hK K
                              refine norm_ (a' := ?_) ?_ ?_
                              rotate_left
                              · show Act.put _ (some 62) _ = _
                                simp only [Act.put, setIfInBounds_toArray, set_cons_zero, set_cons_succ, i64_w, i32_w]
                                rfl
                              refine pure_ (i := 12) (N := some 50) (v := ?_) (a' := ?_) (bA 17 8191) rfl rfl (any_of HT_.out (by kernel_rfl)) (fun _ _ _ h => h) (Or.inl ⟨by rfl, ?_⟩) ?_ ?_; rotate_left; (intro w'; go_simp; with_reducible rfl); rotate_left; (simp only [Act.put, setIfInBounds_toArray, set_cons_zero, set_cons_succ, i64_w, i32_w]; rfl)
                              refine pure_ (i := 13) (N := some 63) (v := ?_) (a' := ?_) (bA 17 16383) rfl rfl (any_of HT_.out (by kernel_rfl)) (fun _ _ _ h => h) (Or.inl ⟨by rfl, ?_⟩) ?_ ?_; rotate_left; (intro w'; go_simp; with_reducible rfl); rotate_left; (simp only [Act.put, setIfInBounds_toArray, set_cons_zero, set_cons_succ, i64_w, i32_w]; rfl)
                              refine pure_ (i := 14) (N := some 64) (v := ?_) (a' := ?_) (bA 17 32767) rfl rfl (any_of HT_.out (by kernel_rfl)) (fun _ _ _ h => h) (Or.inl ⟨by rfl, ?_⟩) ?_ ?_; rotate_left; (intro w'; go_simp; with_reducible rfl); rotate_left; (simp only [Act.put, setIfInBounds_toArray, set_cons_zero, set_cons_succ, i64_w, i32_w]; rfl)
                              refine pure_ (i := 15) (N := some 7) (v := ?_) (a' := ?_) (bA 17 65535) rfl rfl (any_of HT_.out (by kernel_rfl)) (fun _ _ _ h => h) (Or.inl ⟨by rfl, ?_⟩) ?_ ?_; rotate_left; (intro w'; go_simp; with_reducible rfl); rotate_left; (simp only [Act.put, setIfInBounds_toArray, set_cons_zero, set_cons_succ, i64_w, i32_w]; rfl)
                              refine pure_ (i := 16) (N := some 8) (v := ?_) (a' := ?_) (bA 17 131071) rfl rfl (any_of HT_.out (by kernel_rfl)) (fun _ _ _ h => h) (Or.inl ⟨by rfl, ?_⟩) ?_ ?_; rotate_left; (intro w'; go_simp; with_reducible rfl); rotate_left; (simp only [Act.put, setIfInBounds_toArray, set_cons_zero, set_cons_succ, i64_w, i32_w]; rfl)
                              refine done_ (done_of HT_.out (by kernel_rfl)) ?_
                              try go_wp2
                              go_ret
                              exact ⟨by first | rfl | (simp [errW_none, errW_some] <;> rfl) | (simp only [← hji20]; first | rfl | (simp [errW_none, errW_some] <;> rfl)) | (simp [*, errW_none, errW_some] <;> rfl), by repeat (first | (with_reducible first | exact HB.out | apply below_alloc | apply pw_below_drewN | apply below_drew1) | exact HB.out)⟩
                          · rw [if_neg c24] at H
                            exact absurd H (by simp)
                        · rw [if_neg c23] at H
                          exact absurd H (by simp)
                      · rw [if_neg c22] at H
                        exact absurd H (by simp)
                    · rw [if_neg c21] at H
                      exact absurd H (by simp)
            · rw [if_neg c9] at H
              have c9b0 : decide (x6_2 < (t590.length : Int)) = false := decide_eq_false c9
              clear c9
              obtain rfl := Option.some.inj H
              obtain ⟨Ao34, co34, eo34⟩ := Kd.R_slice HO_4.out
              subst eo34
              go_wp2
              go_ret
              exact ⟨by first | rfl | (simp [errW_none, errW_some] <;> rfl) | (simp [*, errW_none, errW_some] <;> rfl), by repeat (first | (with_reducible first | exact HB.out | apply below_alloc | apply pw_below_drewN | apply below_drew1) | exact HB.out)⟩

/-- THE ONE PURE STATEMENT of regletlaw02_ScanMunch: yours. -/
def regletlaw02_ScanMunch.Pure : Prop := ∀ (a0 : ByteArray), a0.size ≤ 140737488351232 → ∃ k, regletlaw02_ScanMunch.f k a0 = some true
theorem regletlaw02_ScanMunch.walk (P : regletlaw02_ScanMunch.Pure) (a0 : ByteArray) (w : World) (w0 : a0.size ≤ 140737488351232) (HM : HasMax w) :
    Calls Try.prog 15 #[.string a0] w fun e w' => e = .returned (.bool true) ∧ Below w.heap.size w w' := by
  obtain ⟨k, h⟩ := P a0 w0
  refine (regletlaw02_ScanMunch.calls k a0 true w h).mono ?_
  rintro e w' ⟨rfl, hd⟩
  exact ⟨rfl, hd⟩

end Go.Proofs.Ytonfmnohmigjpaa.P
