-- Written by wip/pr.py (the kit's printer, driven for functions that are proved by hand beside it).
import Derived.Test.YtonfmnohmigjpaaF0
import Derived.Test.YtonfmnohmigjpaaSq
import Derived.Test.YtonfmnohmigjpaaFD
import Derived.Test.YtonfmnohmigjpaaFB
import Derived.Test.YtonfmnohmigjpaaG56
namespace Go.Proofs.Ytonfmnohmigjpaa.P
open List (setIfInBounds_toArray set_cons_zero set_cons_succ)
open Go.RowKit Go.Proofs.YtonfmnohmigjpaaW.PrintWords Go.Proofs.YtonfmnohmigjpaaW.PrintLast Go.Proofs.YtonfmnohmigjpaaW.PrintMore
attribute [local go_sem] max2_int min2_int max_two min_two max_three min_three max_four min_four   -- for this text's walks alone
set_option linter.unusedVariables false
set_option linter.unusedSimpArgs false

/-! ### regletlaw02_ScanCovers: function 14 -/
mutual
def regletlaw02_ScanCovers.j0 : Nat → ByteArray → Bool → List (S26) → Bool → Option (Bool)
  | 0, _, _, _, _ => none
  | k + 1, x0, x3, x4, x19 => if x19 = true then (if x3 = true then (some ((x4.length : Int) == 0)) else (some false)) else (regletlaw02_ScanCovers.l0 k x0 x3 x4 0 0)
def regletlaw02_ScanCovers.l0 : Nat → ByteArray → Bool → List (S26) → Int → Int → Option (Bool)
  | 0, _, _, _, _, _ => none
  | k + 1, x0, x3, x4, x6, x7 => if x7 < (x4.length : Int) then (if 0 ≤ x7 then (if ((rd_T26 x4 x7).f2) < x6 then (regletlaw02_ScanCovers.j2 k x0 x3 x4 x7 true) else (if ((rd_T26 x4 x7).f3) ≤ ((rd_T26 x4 x7).f2) then (regletlaw02_ScanCovers.j2 k x0 x3 x4 x7 true) else (if ((rd_T26 x4 x7).f3) > (x0.size : Int) then (regletlaw02_ScanCovers.j2 k x0 x3 x4 x7 true) else (if 0 ≤ x6 then (if x6 ≤ ((rd_T26 x4 x7).f2) then (if ((rd_T26 x4 x7).f2) ≤ (x0.size : Int) then ((regletlaw02_spliced.f k (x0.extract (x6 : Int).toNat (((rd_T26 x4 x7).f2) : Int).toNat)).bind fun t521 => (if t521 = true then (regletlaw02_ScanCovers.j2 k x0 x3 x4 x7 (decide ((wrap64 (((rd_T26 x4 x7).f3) - ((rd_T26 x4 x7).f2))) < (((rd_T26 x4 x7).f1).size : Int)))) else (regletlaw02_ScanCovers.j2 k x0 x3 x4 x7 true))) else (none)) else (none)) else (none))))) else (none)) else (if 0 ≤ x6 then (if x6 ≤ (x0.size : Int) then ((regletlaw02_spliced.f k (x0.extract (x6 : Int).toNat x0.size)).bind fun t515 => (if t515 = true then (some x3) else (some false))) else (none)) else (none))
def regletlaw02_ScanCovers.j2 : Nat → ByteArray → Bool → List (S26) → Int → Bool → Option (Bool)
  | 0, _, _, _, _, _ => none
  | k + 1, x0, x3, x4, x7, x93 => if x93 = true then (some false) else (if 0 ≤ x7 then (if x7 < (x4.length : Int) then (if (wrap64 (((rd_T26 x4 x7).f3) - ((rd_T26 x4 x7).f2))) = (((rd_T26 x4 x7).f1).size : Int) then (if 0 ≤ ((rd_T26 x4 x7).f2) then (if ((rd_T26 x4 x7).f2) ≤ ((rd_T26 x4 x7).f3) then (if ((rd_T26 x4 x7).f3) ≤ (x0.size : Int) then (if (x0.extract (((rd_T26 x4 x7).f2) : Int).toNat (((rd_T26 x4 x7).f3) : Int).toNat).toList = ((rd_T26 x4 x7).f1).toList then (regletlaw02_ScanCovers.l0 k x0 x3 x4 ((rd_T26 x4 x7).f3) (wrap64 (x7 + 1))) else (some false)) else (none)) else (none)) else (none)) else (regletlaw02_ScanCovers.l0 k x0 x3 x4 ((rd_T26 x4 x7).f3) (wrap64 (x7 + 1)))) else (none)) else (none))
end
def regletlaw02_ScanCovers.f (k : Nat) (a0 : ByteArray) : Option (Bool) := (regletlaw02_alive.f k).bind fun t510 => ((scan_Scan.f a0).bind fun bt511 => (if bt511.2 = 0 then (regletlaw02_ScanCovers.j0 k a0 t510 bt511.1 (!t510)) else (regletlaw02_ScanCovers.j0 k a0 t510 bt511.1 true)))
theorem regletlaw02_ScanCovers.mono_l : ∀ k, (∀ y0 y1 y2 y3, LeO (regletlaw02_ScanCovers.j0 k y0 y1 y2 y3) (regletlaw02_ScanCovers.j0 (k + 1) y0 y1 y2 y3)) ∧ (∀ y0 y1 y2 y3 y4, LeO (regletlaw02_ScanCovers.l0 k y0 y1 y2 y3 y4) (regletlaw02_ScanCovers.l0 (k + 1) y0 y1 y2 y3 y4)) ∧ (∀ y0 y1 y2 y3 y4, LeO (regletlaw02_ScanCovers.j2 k y0 y1 y2 y3 y4) (regletlaw02_ScanCovers.j2 (k + 1) y0 y1 y2 y3 y4))
  | 0 => ⟨fun _ _ _ _ r h => by simp [regletlaw02_ScanCovers.j0] at h, fun _ _ _ _ _ r h => by simp [regletlaw02_ScanCovers.l0] at h, fun _ _ _ _ _ r h => by simp [regletlaw02_ScanCovers.j2] at h⟩
  | k + 1 => by
    obtain ⟨ih0, ih1, ih2⟩ := regletlaw02_ScanCovers.mono_l k
    refine ⟨?_, ?_, ?_⟩
    · intro y0 y1 y2 y3
      unfold regletlaw02_ScanCovers.j0
      repeat' first
      | (with_reducible exact ih0 _ _ _ _)
      | (with_reducible exact ih1 _ _ _ _ _)
      | (with_reducible exact ih2 _ _ _ _ _)
      | (with_reducible exact regletlaw02_alive.mono _)
      | (with_reducible exact regletlaw02_spliced.mono _ _)
      | (with_reducible exact LeO.refl _)
      | (with_reducible exact LeO.none _)
      | (with_reducible refine LeO.ite ?_ ?_)
      | (with_reducible refine LeO.bind ?_ (fun _ => ?_))
      | exact ih0 _ _ _ _
      | exact ih1 _ _ _ _ _
      | exact ih2 _ _ _ _ _
      | exact regletlaw02_alive.mono _
      | exact regletlaw02_spliced.mono _ _
      | exact LeO.none _
      | refine LeO.ite ?_ ?_
      | refine LeO.bind ?_ (fun _ => ?_)
    · intro y0 y1 y2 y3 y4
      unfold regletlaw02_ScanCovers.l0
      repeat' first
      | (with_reducible exact ih0 _ _ _ _)
      | (with_reducible exact ih1 _ _ _ _ _)
      | (with_reducible exact ih2 _ _ _ _ _)
      | (with_reducible exact regletlaw02_alive.mono _)
      | (with_reducible exact regletlaw02_spliced.mono _ _)
      | (with_reducible exact LeO.refl _)
      | (with_reducible exact LeO.none _)
      | (with_reducible refine LeO.ite ?_ ?_)
      | (with_reducible refine LeO.bind ?_ (fun _ => ?_))
      | exact ih0 _ _ _ _
      | exact ih1 _ _ _ _ _
      | exact ih2 _ _ _ _ _
      | exact regletlaw02_alive.mono _
      | exact regletlaw02_spliced.mono _ _
      | exact LeO.none _
      | refine LeO.ite ?_ ?_
      | refine LeO.bind ?_ (fun _ => ?_)
    · intro y0 y1 y2 y3 y4
      unfold regletlaw02_ScanCovers.j2
      repeat' first
      | (with_reducible exact ih0 _ _ _ _)
      | (with_reducible exact ih1 _ _ _ _ _)
      | (with_reducible exact ih2 _ _ _ _ _)
      | (with_reducible exact regletlaw02_alive.mono _)
      | (with_reducible exact regletlaw02_spliced.mono _ _)
      | (with_reducible exact LeO.refl _)
      | (with_reducible exact LeO.none _)
      | (with_reducible refine LeO.ite ?_ ?_)
      | (with_reducible refine LeO.bind ?_ (fun _ => ?_))
      | exact ih0 _ _ _ _
      | exact ih1 _ _ _ _ _
      | exact ih2 _ _ _ _ _
      | exact regletlaw02_alive.mono _
      | exact regletlaw02_spliced.mono _ _
      | exact LeO.none _
      | refine LeO.ite ?_ ?_
      | refine LeO.bind ?_ (fun _ => ?_)
theorem regletlaw02_ScanCovers.mono : ∀ a0 k, LeO (regletlaw02_ScanCovers.f k a0) (regletlaw02_ScanCovers.f (k + 1) a0) := by
  intro a0 k
  obtain ⟨ih0, ih1, ih2⟩ := regletlaw02_ScanCovers.mono_l k
  unfold regletlaw02_ScanCovers.f
  repeat' first
      | (with_reducible exact ih0 _ _ _ _)
      | (with_reducible exact ih1 _ _ _ _ _)
      | (with_reducible exact ih2 _ _ _ _ _)
      | (with_reducible exact regletlaw02_alive.mono _)
      | (with_reducible exact regletlaw02_spliced.mono _ _)
      | (with_reducible exact LeO.refl _)
      | (with_reducible exact LeO.none _)
      | (with_reducible refine LeO.ite ?_ ?_)
      | (with_reducible refine LeO.bind ?_ (fun _ => ?_))
      | exact ih0 _ _ _ _
      | exact ih1 _ _ _ _ _
      | exact ih2 _ _ _ _ _
      | exact regletlaw02_alive.mono _
      | exact regletlaw02_spliced.mono _ _
      | exact LeO.none _
      | refine LeO.ite ?_ ?_
      | refine LeO.bind ?_ (fun _ => ?_)
def regletlaw02_ScanCovers.T9 : Bool × List (List Nat × List Nat) := (true, [([], []), ([], []), ([0, 1], [0, 1]), ([2], [2]), ([3], [3]), ([], []), ([4, 5], [4, 5]), ([6], [6]), ([7], [7]), ([7], [7]), ([8, 9, 7], [7, 8, 9]), ([10, 7], [7, 10]), ([11, 7], [7, 11]), ([7], [7]), ([7], [7]), ([13, 14, 7], [7, 13, 14]), ([15, 7], [7, 15]), ([16, 7], [7, 16]), ([12, 17, 7], [7, 12, 17]), ([7, 18], [7, 18]), ([19, 7], [19]), ([20], [20]), ([20], [20]), ([21, 22, 20], [20, 21, 22]), ([23, 20], [20, 23]), ([24, 20], [20, 24]), ([20], [20]), ([26, 20], [20, 26]), ([25, 27, 20], [20, 25, 27]), ([20, 28], [20, 28]), ([29, 20], [29]), ([30], [30]), ([30], [30]), ([30], [30]), ([30], [30]), ([33, 34, 30], [30, 33, 34]), ([35, 30], [30, 35]), ([36, 30], [30, 36]), ([31, 32, 37, 30], [30, 31, 32, 37]), ([38, 30, 30], [30, 38]), ([39, 30], [30, 39]), ([30, 40], [30, 40]), ([41, 39], [41]), ([42], [42]), ([42], [42]), ([43, 44, 42], [42, 43, 44]), ([45, 42], [42, 45]), ([46, 42], [42, 46]), ([42], [42]), ([42], [42]), ([48, 49, 42], [42, 48, 49]), ([50, 42], [42, 50]), ([51, 42], [42, 51]), ([47, 52, 42], [42, 47, 52]), ([42], [42]), ([42], [42]), ([54, 55, 42], [42, 54, 55]), ([56, 42], [42, 56]), ([57, 42], [42, 57]), ([58, 42], [42, 58]), ([53, 59, 42], [42, 53, 59]), ([42, 60], [42, 60])])
def regletlaw02_ScanCovers.B9 : List Nat := [0, 0, 3, 7, 15, 0, 63, 127, 255, 255, 1023, 2047, 4095, 255, 255, 24831, 57599, 123135, 262143, 524287, 1048575, 2097151, 2097151, 8388607, 16777215, 33554431, 2097151, 69206015, 268435455, 536870911, 1073741823, 2147483647, 2147483647, 2147483647, 2147483647, 27917287423, 62277025791, 130996502527, 274877906943, 549755813887, 1099511627775, 2199023255551, 4398046511103, 8796093022207, 8796093022207, 35184372088831, 70368744177663, 140737488355327, 8796093022207, 8796093022207, 853221023154175, 1979120929996799, 4230920743682047, 9007199254740991, 8796093022207, 8796093022207, 54051991621468159, 126109585659396095, 270224773735251967, 558455149886963711, 1152921504606846975, 2305843009213693951]
theorem regletlaw02_ScanCovers.tab9 : rtab .any (opsOf Try.f14 9) = regletlaw02_ScanCovers.T9 := by kernel_rfl
theorem regletlaw02_ScanCovers.bits9 : waitsOk regletlaw02_ScanCovers.T9.2 regletlaw02_ScanCovers.B9 = true := by kernel_rfl
def regletlaw02_ScanCovers.T11 : Bool × List (List Nat × List Nat) := (true, [([], []), ([], []), ([0, 1], [0, 1]), ([2], [2]), ([3], [3]), ([], []), ([], []), ([5, 6], [5, 6]), ([7], [7]), ([8], [8]), ([4, 9], [4, 9]), ([], []), ([], []), ([11, 12], [11, 12]), ([13], [13]), ([14], [14]), ([15], [15]), ([10, 16], [10, 16]), ([17], [17]), ([18], [18]), ([18], [18]), ([18], [18]), ([20, 21, 18], [18, 20, 21]), ([22, 18], [18, 22]), ([23, 18], [18, 23]), ([18], [18]), ([18], [18]), ([25, 26, 18], [18, 25, 26]), ([27, 18], [18, 27]), ([28, 18], [18, 28]), ([19, 24, 29, 18], [18, 19, 24, 29]), ([18], [18]), ([18], [18]), ([31, 32, 18], [18, 31, 32]), ([33, 18], [18, 33]), ([34, 18], [18, 34]), ([30, 35, 18], [18, 30, 35]), ([18, 36], [18, 36])])
def regletlaw02_ScanCovers.B11 : List Nat := [0, 0, 3, 7, 15, 0, 0, 96, 224, 480, 1023, 0, 0, 6144, 14336, 30720, 63488, 131071, 262143, 524287, 524287, 524287, 3670015, 7864319, 16252927, 524287, 524287, 101187583, 235405311, 503840767, 1073741823, 524287, 524287, 6442975231, 15032909823, 32212779007, 68719476735, 137438953471]
theorem regletlaw02_ScanCovers.tab11 : rtab .any (opsOf Try.f14 11) = regletlaw02_ScanCovers.T11 := by kernel_rfl
theorem regletlaw02_ScanCovers.bits11 : waitsOk regletlaw02_ScanCovers.T11.2 regletlaw02_ScanCovers.B11 = true := by kernel_rfl
set_option maxHeartbeats 8000000 in
set_option maxRecDepth 100000 in
theorem regletlaw02_ScanCovers.calls (k : Nat) (a0 : ByteArray) (r : Bool) (w : World) (h : regletlaw02_ScanCovers.f k a0 = some r) (HM : HasMax w := by first | assumption | exact max_below (Aside0.out (by assumption)) (by assumption)) :
    Calls Try.prog 14 #[.string a0] w fun e w' => e = .returned (.bool r) ∧ Below w.heap.size w w' := by
  have HB := Aside0.mk (Below.refl w.heap.size w)
  have H : ((regletlaw02_alive.f k).bind fun t510 => ((scan_Scan.f a0).bind fun bt511 => (if bt511.2 = 0 then (regletlaw02_ScanCovers.j0 k a0 t510 bt511.1 (!t510)) else (regletlaw02_ScanCovers.j0 k a0 t510 bt511.1 true)))) = some r := h
  clear h
  replace H := Option.bind_eq_some_iff.mp H
  obtain ⟨t510, A20, H⟩ := H
  replace H : ((scan_Scan.f a0).bind fun bt511 => (if bt511.2 = 0 then (regletlaw02_ScanCovers.j0 k a0 t510 bt511.1 (!t510)) else (regletlaw02_ScanCovers.j0 k a0 t510 bt511.1 true))) = some r := H
  have A2 := Aside0.mk A20
  clear A20
  replace H := Option.bind_eq_some_iff.mp H
  obtain ⟨⟨t511, t512⟩, A30, H⟩ := H
  replace H : (if t512 = 0 then (regletlaw02_ScanCovers.j0 k a0 t510 t511 (!t510)) else (regletlaw02_ScanCovers.j0 k a0 t510 t511 true)) = some r := H
  have A3 := Aside0.mk A30
  clear A30
  have HC4 := Aside0.mk H
  clear H
  go_enter Try.func14, Try.ntmps14
  go_upto_region 3 with (first | ((with_reducible refine gate_callee (f := 55) rfl ?_); refine goesL_ (some 8) rfl rfl Try.func55 (by kernel_rfl) rfl #[] rfl (by (try simp only [List.map_toArray, List.map_cons, List.map_nil]); first | done | rfl | (simp only [List.length_drop, List.length_take]; rfl)) ?_; (with_reducible refine (regletlaw02_alive.calls k  t510 _ A2.out).mono ?_); rintro e w5 ⟨rfl, hb⟩; refine ⟨_, rfl, ?_⟩; have n0_ := Aside0.mk (below_step (by repeat (first | (with_reducible first | exact HB.out | apply below_alloc | apply pw_below_drewN | apply below_drew1) | exact HB.out)) hb); clear HB; have HB := n0_; clear n0_; (try clear hb); (try clear hb2); (try clear hk); (try clear hi)) | ((with_reducible refine gate_callee (f := 56) rfl ?_); refine goesL_ (some 11) rfl rfl Try.func56 (by kernel_rfl) rfl #[.string a0] rfl (by (try simp only [List.map_toArray, List.map_cons, List.map_nil]); first | done | rfl | (simp only [List.length_drop, List.length_take]; rfl)) ?_; (with_reducible refine (scan_Scan.calls a0 t511 t512 _ A3.out).mono ?_); rintro e w6 ⟨v513, rfl, ho0, hb⟩; refine ⟨_, rfl, ?_⟩; have n0_ := Aside0.mk (Kd.R_lower ho0 (below_size (by repeat (first | (with_reducible first | exact HB.out | apply below_alloc | apply pw_below_drewN | apply below_drew1) | exact HB.out)))); have n1_ := Aside0.mk (below_step (by repeat (first | (with_reducible first | exact HB.out | apply below_alloc | apply pw_below_drewN | apply below_drew1) | exact HB.out)) hb); clear HB; have HO514 := n0_; have HB := n1_; clear n0_ n1_; (try clear hb); (try clear hb2); (try clear hk); (try clear hi); (try clear ho0)))
  (try simp only [Act.put, List.setIfInBounds_toArray, List.set_cons_zero, List.set_cons_succ])
  go_cut [19] (fun v19 wc => ∃ (kq : Nat) (x19_3 : Bool), v19 = .bool x19_3 ∧ Aside0 (regletlaw02_ScanCovers.j0 kq a0 t510 t511 x19_3 = some r) ∧ Aside0 (kq ≤ k) ∧ Aside0 (Kd.R k26 26 wc w.heap.size (fun _ => True) v513 t511) ∧ Aside0 (Below w.heap.size w wc))
  case first =>
    have H := HC4.out
    clear HC4
    by_cases c7 : t512 = 0
    · rw [if_pos c7] at H
      have c7b0 : (t512 == 0) = true := beq_iff_eq.mpr c7
      have c7b1 : (t512 != 0) = false := bne_eq_false_iff_eq.mpr c7
      clear c7
      (first | rw [c7b0] | (simp only [i64_w, i32_w]; rw [c7b0]) | skip)
      have H' := Aside0.mk H
      clear H
      go_wp2
      go_meet
      case rel => exact ⟨_, (!t510), (by first | rfl | (simp; done) | (simp [*]; done)), H', ⟨by first | omega | exact Nat.le_refl _⟩, ⟨by (with_reducible repeat (first | apply Kd.R_alloc | apply Kd.R_drewN | apply Kd.R_drew)); exact HO514.out⟩, ⟨by repeat (first | (with_reducible first | exact HB.out | apply below_alloc | apply pw_below_drewN | apply below_drew1) | exact HB.out)⟩⟩
    · rw [if_neg c7] at H
      have c7b0 : (t512 == 0) = false := beq_eq_false_iff_ne.mpr c7
      have c7b1 : (t512 != 0) = true := bne_iff_ne.mpr c7
      (first | rw [c7b0] | (simp only [i64_w, i32_w]; rw [c7b0]) | skip)
      have H' := Aside0.mk H
      clear H
      go_wp2
      go_meet
      case rel => exact ⟨_, (true), (by first | rfl | (simp; done) | (simp [*]; done)), H', ⟨by first | omega | exact Nat.le_refl _⟩, ⟨by (with_reducible repeat (first | apply Kd.R_alloc | apply Kd.R_drewN | apply Kd.R_drew)); exact HO514.out⟩, ⟨by repeat (first | (with_reducible first | exact HB.out | apply below_alloc | apply pw_below_drewN | apply below_drew1) | exact HB.out)⟩⟩
  case rest =>
    clear HC4
    try clear c1
    try clear p2
    try clear c5
    try clear c7
    try clear c7b0
    try clear c7b1
    obtain ⟨kq, x19_3, rfl, HA, HJ3, HO_4, HB⟩ := hcut
    cases kq with
    | zero => exact absurd HA.out (by simp [regletlaw02_ScanCovers.j0])
    | succ kj3 =>
      have H := HA.out
      clear HA
      simp only [regletlaw02_ScanCovers.j0] at H
      by_cases c8 : x19_3 = true
      · subst c8
        have H1 : (if t510 = true then (some ((t511.length : Int) == 0)) else (some false)) = some r := by rw [if_pos rfl] at H; exact H
        clear H
        have H := H1
        clear H1
        by_cases c9 : t510 = true
        · subst c9
          have H1 : (some ((t511.length : Int) == 0)) = some r := by rw [if_pos rfl] at H; exact H
          clear H
          have H := H1
          clear H1
          obtain rfl := Option.some.inj H
          obtain ⟨Ao10, co10, eo10⟩ := Kd.R_slice HO_4.out
          subst eo10
          go_wp2
          go_ret
          exact ⟨by first | rfl | (simp [errW_none, errW_some] <;> rfl) | (simp [*, errW_none, errW_some] <;> rfl), by repeat (first | (with_reducible first | exact HB.out | apply below_alloc | apply pw_below_drewN | apply below_drew1) | exact HB.out)⟩
        · replace c9 := Bool.eq_false_iff.mpr c9
          subst c9
          have H1 : (some false) = some r := by rw [if_neg (show ¬ (false = true) by decide)] at H; exact H
          clear H
          have H := H1
          clear H1
          obtain rfl := Option.some.inj H
          go_wp2
          go_ret
          exact ⟨by first | rfl | (simp [errW_none, errW_some] <;> rfl) | (simp [*, errW_none, errW_some] <;> rfl), by repeat (first | (with_reducible first | exact HB.out | apply below_alloc | apply pw_below_drewN | apply below_drew1) | exact HB.out)⟩
      · replace c8 := Bool.eq_false_iff.mpr c8
        subst c8
        have H1 : (regletlaw02_ScanCovers.l0 kj3 a0 t510 t511 0 0) = some r := by rw [if_neg (show ¬ (false = true) by decide)] at H; exact H
        clear H
        have H := H1
        clear H1
        have H' := Aside0.mk H
        clear H
        go_wp2
        go_loopg [6, 7] kj3 (fun kq v6 v7 w' => ∃ (x6_2 : Int) (x7_2 : Int), v6 = .int .i64 x6_2 ∧ v7 = .int .i64 x7_2 ∧ Aside0 (regletlaw02_ScanCovers.l0 kq a0 t510 t511 x6_2 x7_2 = some r) ∧ Aside0 (kq ≤ kj3) ∧ Aside0 (Kd.R k26 26 w' w.heap.size (fun _ => True) v513 t511) ∧ Aside0 (Below w.heap.size w w'))
        case atStart => exact ⟨(0), (0), (by first | rfl | (simp; done) | (simp [*]; done)), (by first | rfl | (simp; done) | (simp [*]; done)), H', ⟨Nat.le_refl _⟩, ⟨by (with_reducible repeat (first | apply Kd.R_alloc | apply Kd.R_drewN | apply Kd.R_drew)); exact HO_4.out⟩, ⟨by repeat (first | (with_reducible first | exact HB.out | apply below_alloc | apply pw_below_drewN | apply below_drew1) | exact HB.out)⟩⟩
        case round =>
          clear H'
          try clear c1
          try clear p2
          try clear c5
          try clear c7
          try clear c7b0
          try clear c7b1
          try clear c8
          try clear c9
          try clear p2
          obtain ⟨x6_2, x7_2, rfl, rfl, HA, HK2, HO_4, HB⟩ := hrel
          cases gk with
          | zero => exact absurd HA.out (by simp [regletlaw02_ScanCovers.l0])
          | succ k2 =>
            have H := HA.out
            clear HA
            simp only [regletlaw02_ScanCovers.l0] at H
            by_cases c11 : x7_2 < (t511.length : Int)
            · rw [if_pos c11] at H
              have c11b0 : decide (x7_2 < (t511.length : Int)) = true := decide_eq_true c11
              clear c11
              have HC12 := Aside0.mk H
              clear H
              obtain ⟨Ao13, co13, eo13⟩ := Kd.R_slice HO_4.out
              subst eo13
              go_upto_region 9 with (fail)
              go_cut [93] (fun v93 wc => ∃ (kq : Nat) (x93_11 : Bool), v93 = .bool x93_11 ∧ Aside0 (regletlaw02_ScanCovers.j2 kq a0 t510 t511 x7_2 x93_11 = some r) ∧ Aside0 (kq ≤ k2) ∧ Aside0 (Kd.R k26 26 wc w.heap.size (fun _ => True) (.slice Ao13 t511.length co13) t511) ∧ Aside0 (Below w.heap.size w wc))
              case first =>
                have H := HC12.out
                clear HC12
                by_cases c14 : 0 ≤ x7_2
                · rw [if_pos c14] at H
                  have c14b0 : decide (0 ≤ x7_2) = true := decide_eq_true c14
                  clear c14
                  (first | rw [c14b0] | (simp only [i64_w, i32_w]; rw [c14b0]) | skip)
                  by_cases c15 : ((rd_T26 t511 x7_2).f2) < x6_2
                  · rw [if_pos c15] at H
                    have c15b0 : decide (((rd_T26 t511 x7_2).f2) < x6_2) = true := decide_eq_true c15
                    clear c15
                    have H' := Aside0.mk H
                    clear H
                    try go_wp2
                    have n0_ := Aside0.mk (Kd.R_drew HO_4.out)
                    have n1_ := Aside0.mk (below_drew1 HB.out)
                    clear HO_4
                    clear HB
                    have HO_4 := n0_
                    have HB := n1_
                    clear n0_ n1_
                    have p516 : 0 ≤ (x7_2 : Int) := of_decide_eq_true (by first | (with_reducible assumption) | assumption)
                    have q516 : x7_2 < (t511.length : Int) := of_decide_eq_true (by first | (with_reducible assumption) | assumption)
                    obtain ⟨ad516, e516, hx516_0, hx516_1, hx516_2, hx516_3, hx516_4⟩ := at_T26 (Kd.R_reads' HO_4.out).2.2 x7_2 p516 q516
                    cases e516
                    replace p516 := eq_true p516
                    replace q516 := eq_true q516
                    refine start_ (n := 62) (S := fun w' => w'.cell? (ad516.add ((x7_2).toNat * 5)) = some (.int .i64 ((rd_T26 t511 x7_2).f0)) ∧ w'.cell? ⟨(ad516.add ((x7_2).toNat * 5)).block, (ad516.add ((x7_2).toNat * 5)).off + 1, none⟩ = some (.string ((rd_T26 t511 x7_2).f1)) ∧ w'.cell? ⟨(ad516.add ((x7_2).toNat * 5)).block, (ad516.add ((x7_2).toNat * 5)).off + 2, none⟩ = some (.int .i64 ((rd_T26 t511 x7_2).f2)) ∧ w'.cell? ⟨(ad516.add ((x7_2).toNat * 5)).block, (ad516.add ((x7_2).toNat * 5)).off + 3, none⟩ = some (.int .i64 ((rd_T26 t511 x7_2).f3)) ∧ w'.cell? ⟨(ad516.add ((x7_2).toNat * 5)).block, (ad516.add ((x7_2).toNat * 5)).off + 4, none⟩ = some (.bool ((rd_T26 t511 x7_2).f4))) (ds := []) (bA 62 0) (by kernel_rfl) rfl rfl ⟨hx516_0, hx516_1, hx516_2, hx516_3, hx516_4⟩ (fun hHeld => ?_); refine with_tabW regletlaw02_ScanCovers.tab9 regletlaw02_ScanCovers.bits9 (fun HT_ HW_ => ?_)
                    generalize wr.drew = w16 at HO_4 HB hx516_0 hx516_1 hx516_2 hx516_3 hx516_4 hHeld ⊢
                    refine pure_ (i := 0) (N := some 32) (v := ?_) (a' := ?_) (bA 62 1) rfl rfl (any_of HT_.out (by kernel_rfl)) (fun _ _ _ h => h) (Or.inl ⟨by rfl, ?_⟩) ?_ ?_; rotate_left; (intro w'; go_simp; with_reducible rfl); rotate_left; (simp only [Act.put, setIfInBounds_toArray, set_cons_zero, set_cons_succ, i64_w, i32_w]; rfl)
                    refine pure_ (i := 1) (N := some 33) (v := ?_) (a' := ?_) (bA 62 3) rfl rfl (any_of HT_.out (by kernel_rfl)) (fun _ _ _ h => h) (Or.inl ⟨by rfl, ?_⟩) ?_ ?_; rotate_left; (intro w'; go_simp; with_reducible rfl); rotate_left; (simp only [Act.put, setIfInBounds_toArray, set_cons_zero, set_cons_succ, i64_w, i32_w]; rfl)
                    refine pure_ (i := 2) (N := some 34) (v := ?_) (a' := ?_) (bA 62 7) rfl rfl (any_of HT_.out (by kernel_rfl)) (fun _ _ _ h => h) (Or.inl ⟨by rfl, ?_⟩) ?_ ?_; rotate_left; (intro w'; go_simp; with_reducible rfl); rotate_left; (simp only [Act.put, setIfInBounds_toArray, set_cons_zero, set_cons_succ, i64_w, i32_w]; rfl)
                    refine pure_ (i := 3) (N := some 35) (v := ?_) (a' := ?_) (bA 62 15) rfl rfl (any_of HT_.out (by kernel_rfl)) (fun _ _ _ h => h) (Or.inl ⟨by rfl, ?_⟩) ?_ ?_; rotate_left; (intro w'; go_simp; with_reducible rfl); rotate_left; (simp only [Act.put, setIfInBounds_toArray, set_cons_zero, set_cons_succ, i64_w, i32_w]; rfl)
                    refine pure_ (i := 5) (N := some 37) (v := ?_) (a' := ?_) (bA 62 47) rfl rfl (any_of HT_.out (by kernel_rfl)) (fun _ _ _ h => h) (Or.inl ⟨by rfl, ?_⟩) ?_ ?_; rotate_left; (intro w'; go_simp; with_reducible rfl); rotate_left; (simp only [Act.put, setIfInBounds_toArray, set_cons_zero, set_cons_succ, i64_w, i32_w]; rfl)
                    refine take_ (i := 4) (N := some 36) (v := ?_) (a' := ?_) (bA 62 63) rfl rfl (take_ofW HT_.out HW_.out (by kernel_rfl)) (fun _ _ _ h => h) (Or.inl ⟨by rfl, ?_⟩) hHeld ?_ ?_; rotate_left; (rintro w' ⟨s0, s1, s2, s3, s4⟩; go_simp; with_reducible rfl); rotate_left; (simp only [Act.put, setIfInBounds_toArray, set_cons_zero, set_cons_succ, i64_w, i32_w]; rfl)
                    refine pure_ (i := 6) (N := some 38) (v := ?_) (a' := ?_) (bA 62 127) rfl rfl (any_of HT_.out (by kernel_rfl)) (fun _ _ _ h => h) (Or.inl ⟨by rfl, ?_⟩) ?_ ?_; rotate_left; (intro w'; go_simp; with_reducible rfl); rotate_left; (simp only [Act.put, setIfInBounds_toArray, set_cons_zero, set_cons_succ, i64_w, i32_w]; rfl)
                    refine pure_ (i := 7) (N := some 39) (v := ?_) (a' := ?_) (bA 62 255) rfl rfl (any_of HT_.out (by kernel_rfl)) (fun _ _ _ h => h) (Or.inl ⟨by rfl, ?_⟩) ?_ ?_; rotate_left; (intro w'; go_simp; with_reducible rfl); rotate_left; (simp only [Act.put, setIfInBounds_toArray, set_cons_zero, set_cons_succ, i64_w, i32_w]; rfl)
                    refine pure_ (i := 8) (N := some 40) (v := undef) (a' := ?_) (bA 62 511) rfl rfl (any_of HT_.out (by kernel_rfl)) (fun _ _ _ h => h) (Or.inr ⟨by rfl, rfl⟩) ?_ ?_; rotate_left; (simp only [Act.put, setIfInBounds_toArray, set_cons_zero, set_cons_succ, i64_w, i32_w]; rfl)
                    refine pure_ (i := 9) (N := some 41) (v := undef) (a' := ?_) (bA 62 1023) rfl rfl (any_of HT_.out (by kernel_rfl)) (fun _ _ _ h => h) (Or.inr ⟨by rfl, rfl⟩) ?_ ?_; rotate_left; (simp only [Act.put, setIfInBounds_toArray, set_cons_zero, set_cons_succ, i64_w, i32_w]; rfl)
                    refine pure_ (i := 10) (N := some 42) (v := undef) (a' := ?_) (bA 62 2047) rfl rfl (any_of HT_.out (by kernel_rfl)) (fun _ _ _ h => h) (Or.inr ⟨by rfl, rfl⟩) ?_ ?_; rotate_left; (simp only [Act.put, setIfInBounds_toArray, set_cons_zero, set_cons_succ, i64_w, i32_w]; rfl)
                    refine pure_ (i := 11) (N := some 43) (v := undef) (a' := ?_) (bA 62 4095) rfl rfl (any_of HT_.out (by kernel_rfl)) (fun _ _ _ h => h) (Or.inr ⟨by rfl, rfl⟩) ?_ ?_; rotate_left; (simp only [Act.put, setIfInBounds_toArray, set_cons_zero, set_cons_succ, i64_w, i32_w]; rfl)
                    refine pure_ (i := 12) (N := some 44) (v := undef) (a' := ?_) (bA 62 8191) rfl rfl (any_of HT_.out (by kernel_rfl)) (fun _ _ _ h => h) (Or.inr ⟨by rfl, rfl⟩) ?_ ?_; rotate_left; (simp only [Act.put, setIfInBounds_toArray, set_cons_zero, set_cons_succ, i64_w, i32_w]; rfl)
                    refine pure_ (i := 13) (N := some 45) (v := undef) (a' := ?_) (bA 62 16383) rfl rfl (any_of HT_.out (by kernel_rfl)) (fun _ _ _ h => h) (Or.inr ⟨by rfl, rfl⟩) ?_ ?_; rotate_left; (simp only [Act.put, setIfInBounds_toArray, set_cons_zero, set_cons_succ, i64_w, i32_w]; rfl)
                    refine pure_ (i := 14) (N := some 46) (v := undef) (a' := ?_) (bA 62 32767) rfl rfl (any_of HT_.out (by kernel_rfl)) (fun _ _ _ h => h) (Or.inr ⟨by rfl, rfl⟩) ?_ ?_; rotate_left; (simp only [Act.put, setIfInBounds_toArray, set_cons_zero, set_cons_succ, i64_w, i32_w]; rfl)
                    refine pure_ (i := 15) (N := some 47) (v := undef) (a' := ?_) (bA 62 65535) rfl rfl (any_of HT_.out (by kernel_rfl)) (fun _ _ _ h => h) (Or.inr ⟨by rfl, rfl⟩) ?_ ?_; rotate_left; (simp only [Act.put, setIfInBounds_toArray, set_cons_zero, set_cons_succ, i64_w, i32_w]; rfl)
                    refine pure_ (i := 16) (N := some 48) (v := undef) (a' := ?_) (bA 62 131071) rfl rfl (any_of HT_.out (by kernel_rfl)) (fun _ _ _ h => h) (Or.inr ⟨by rfl, rfl⟩) ?_ ?_; rotate_left; (simp only [Act.put, setIfInBounds_toArray, set_cons_zero, set_cons_succ, i64_w, i32_w]; rfl)
                    refine pure_ (i := 17) (N := some 49) (v := undef) (a' := ?_) (bA 62 262143) rfl rfl (any_of HT_.out (by kernel_rfl)) (fun _ _ _ h => h) (Or.inr ⟨by rfl, rfl⟩) ?_ ?_; rotate_left; (simp only [Act.put, setIfInBounds_toArray, set_cons_zero, set_cons_succ, i64_w, i32_w]; rfl)
                    refine pure_ (i := 18) (N := some 50) (v := undef) (a' := ?_) (bA 62 524287) rfl rfl (any_of HT_.out (by kernel_rfl)) (fun _ _ _ h => h) (Or.inr ⟨by rfl, rfl⟩) ?_ ?_; rotate_left; (simp only [Act.put, setIfInBounds_toArray, set_cons_zero, set_cons_succ, i64_w, i32_w]; rfl)
                    refine pure_ (i := 19) (N := some 51) (v := ?_) (a' := ?_) (bA 62 1048575) rfl rfl (any_of HT_.out (by kernel_rfl)) (fun _ _ _ h => h) (Or.inl ⟨by rfl, ?_⟩) ?_ ?_; rotate_left; (intro w'; go_simp; with_reducible rfl); rotate_left; (simp only [Act.put, setIfInBounds_toArray, set_cons_zero, set_cons_succ, i64_w, i32_w]; rfl)
                    refine pure_ (i := 20) (N := some 52) (v := ?_) (a' := ?_) (bA 62 2097151) rfl rfl (any_of HT_.out (by kernel_rfl)) (fun _ _ _ h => h) (Or.inl ⟨by rfl, ?_⟩) ?_ ?_; rotate_left; (intro w'; go_simp; with_reducible rfl); rotate_left; (simp only [Act.put, setIfInBounds_toArray, set_cons_zero, set_cons_succ, i64_w, i32_w]; rfl)
                    refine pure_ (i := 21) (N := some 53) (v := undef) (a' := ?_) (bA 62 4194303) rfl rfl (any_of HT_.out (by kernel_rfl)) (fun _ _ _ h => h) (Or.inr ⟨by rfl, rfl⟩) ?_ ?_; rotate_left; (simp only [Act.put, setIfInBounds_toArray, set_cons_zero, set_cons_succ, i64_w, i32_w]; rfl)
                    refine pure_ (i := 22) (N := some 54) (v := undef) (a' := ?_) (bA 62 8388607) rfl rfl (any_of HT_.out (by kernel_rfl)) (fun _ _ _ h => h) (Or.inr ⟨by rfl, rfl⟩) ?_ ?_; rotate_left; (simp only [Act.put, setIfInBounds_toArray, set_cons_zero, set_cons_succ, i64_w, i32_w]; rfl)
                    refine pure_ (i := 23) (N := some 55) (v := undef) (a' := ?_) (bA 62 16777215) rfl rfl (any_of HT_.out (by kernel_rfl)) (fun _ _ _ h => h) (Or.inr ⟨by rfl, rfl⟩) ?_ ?_; rotate_left; (simp only [Act.put, setIfInBounds_toArray, set_cons_zero, set_cons_succ, i64_w, i32_w]; rfl)
                    refine pure_ (i := 24) (N := some 56) (v := undef) (a' := ?_) (bA 62 33554431) rfl rfl (any_of HT_.out (by kernel_rfl)) (fun _ _ _ h => h) (Or.inr ⟨by rfl, rfl⟩) ?_ ?_; rotate_left; (simp only [Act.put, setIfInBounds_toArray, set_cons_zero, set_cons_succ, i64_w, i32_w]; rfl)
                    refine pure_ (i := 25) (N := some 57) (v := undef) (a' := ?_) (bA 62 67108863) rfl rfl (any_of HT_.out (by kernel_rfl)) (fun _ _ _ h => h) (Or.inr ⟨by rfl, rfl⟩) ?_ ?_; rotate_left; (simp only [Act.put, setIfInBounds_toArray, set_cons_zero, set_cons_succ, i64_w, i32_w]; rfl)
                    refine pure_ (i := 26) (N := some 58) (v := undef) (a' := ?_) (bA 62 134217727) rfl rfl (any_of HT_.out (by kernel_rfl)) (fun _ _ _ h => h) (Or.inr ⟨by rfl, rfl⟩) ?_ ?_; rotate_left; (simp only [Act.put, setIfInBounds_toArray, set_cons_zero, set_cons_succ, i64_w, i32_w]; rfl)
                    refine pure_ (i := 27) (N := some 59) (v := undef) (a' := ?_) (bA 62 268435455) rfl rfl (any_of HT_.out (by kernel_rfl)) (fun _ _ _ h => h) (Or.inr ⟨by rfl, rfl⟩) ?_ ?_; rotate_left; (simp only [Act.put, setIfInBounds_toArray, set_cons_zero, set_cons_succ, i64_w, i32_w]; rfl)
                    refine pure_ (i := 28) (N := some 60) (v := undef) (a' := ?_) (bA 62 536870911) rfl rfl (any_of HT_.out (by kernel_rfl)) (fun _ _ _ h => h) (Or.inr ⟨by rfl, rfl⟩) ?_ ?_; rotate_left; (simp only [Act.put, setIfInBounds_toArray, set_cons_zero, set_cons_succ, i64_w, i32_w]; rfl)
                    refine pure_ (i := 29) (N := some 61) (v := ?_) (a' := ?_) (bA 62 1073741823) rfl rfl (any_of HT_.out (by kernel_rfl)) (fun _ _ _ h => h) (Or.inl ⟨by rfl, ?_⟩) ?_ ?_; rotate_left; (intro w'; go_simp; with_reducible rfl); rotate_left; (simp only [Act.put, setIfInBounds_toArray, set_cons_zero, set_cons_succ, i64_w, i32_w]; rfl)
                    refine pure_ (i := 30) (N := some 62) (v := ?_) (a' := ?_) (bA 62 2147483647) rfl rfl (any_of HT_.out (by kernel_rfl)) (fun _ _ _ h => h) (Or.inl ⟨by rfl, ?_⟩) ?_ ?_; rotate_left; (intro w'; go_simp; with_reducible rfl); rotate_left; (simp only [Act.put, setIfInBounds_toArray, set_cons_zero, set_cons_succ, i64_w, i32_w]; rfl)
                    refine pure_ (i := 31) (N := some 63) (v := undef) (a' := ?_) (bA 62 4294967295) rfl rfl (any_of HT_.out (by kernel_rfl)) (fun _ _ _ h => h) (Or.inr ⟨by rfl, rfl⟩) ?_ ?_; rotate_left; (simp only [Act.put, setIfInBounds_toArray, set_cons_zero, set_cons_succ, i64_w, i32_w]; rfl)
                    refine pure_ (i := 32) (N := some 64) (v := undef) (a' := ?_) (bA 62 8589934591) rfl rfl (any_of HT_.out (by kernel_rfl)) (fun _ _ _ h => h) (Or.inr ⟨by rfl, rfl⟩) ?_ ?_; rotate_left; (simp only [Act.put, setIfInBounds_toArray, set_cons_zero, set_cons_succ, i64_w, i32_w]; rfl)
                    refine pure_ (i := 33) (N := some 65) (v := undef) (a' := ?_) (bA 62 17179869183) rfl rfl (any_of HT_.out (by kernel_rfl)) (fun _ _ _ h => h) (Or.inr ⟨by rfl, rfl⟩) ?_ ?_; rotate_left; (simp only [Act.put, setIfInBounds_toArray, set_cons_zero, set_cons_succ, i64_w, i32_w]; rfl)
                    refine pure_ (i := 34) (N := some 66) (v := undef) (a' := ?_) (bA 62 34359738367) rfl rfl (any_of HT_.out (by kernel_rfl)) (fun _ _ _ h => h) (Or.inr ⟨by rfl, rfl⟩) ?_ ?_; rotate_left; (simp only [Act.put, setIfInBounds_toArray, set_cons_zero, set_cons_succ, i64_w, i32_w]; rfl)
                    refine pure_ (i := 35) (N := some 67) (v := undef) (a' := ?_) (bA 62 68719476735) rfl rfl (any_of HT_.out (by kernel_rfl)) (fun _ _ _ h => h) (Or.inr ⟨by rfl, rfl⟩) ?_ ?_; rotate_left; (simp only [Act.put, setIfInBounds_toArray, set_cons_zero, set_cons_succ, i64_w, i32_w]; rfl)
                    refine pure_ (i := 36) (N := some 68) (v := undef) (a' := ?_) (bA 62 137438953471) rfl rfl (any_of HT_.out (by kernel_rfl)) (fun _ _ _ h => h) (Or.inr ⟨by rfl, rfl⟩) ?_ ?_; rotate_left; (simp only [Act.put, setIfInBounds_toArray, set_cons_zero, set_cons_succ, i64_w, i32_w]; rfl)
                    refine pure_ (i := 37) (N := some 69) (v := undef) (a' := ?_) (bA 62 274877906943) rfl rfl (any_of HT_.out (by kernel_rfl)) (fun _ _ _ h => h) (Or.inr ⟨by rfl, rfl⟩) ?_ ?_; rotate_left; (simp only [Act.put, setIfInBounds_toArray, set_cons_zero, set_cons_succ, i64_w, i32_w]; rfl)
                    refine pure_ (i := 38) (N := some 70) (v := undef) (a' := ?_) (bA 62 549755813887) rfl rfl (any_of HT_.out (by kernel_rfl)) (fun _ _ _ h => h) (Or.inr ⟨by rfl, rfl⟩) ?_ ?_; rotate_left; (simp only [Act.put, setIfInBounds_toArray, set_cons_zero, set_cons_succ, i64_w, i32_w]; rfl)
                    refine pure_ (i := 39) (N := some 71) (v := undef) (a' := ?_) (bA 62 1099511627775) rfl rfl (any_of HT_.out (by kernel_rfl)) (fun _ _ _ h => h) (Or.inr ⟨by rfl, rfl⟩) ?_ ?_; rotate_left; (simp only [Act.put, setIfInBounds_toArray, set_cons_zero, set_cons_succ, i64_w, i32_w]; rfl)
                    refine pure_ (i := 40) (N := some 72) (v := undef) (a' := ?_) (bA 62 2199023255551) rfl rfl (any_of HT_.out (by kernel_rfl)) (fun _ _ _ h => h) (Or.inr ⟨by rfl, rfl⟩) ?_ ?_; rotate_left; (simp only [Act.put, setIfInBounds_toArray, set_cons_zero, set_cons_succ, i64_w, i32_w]; rfl)
                    refine pure_ (i := 41) (N := some 73) (v := ?_) (a' := ?_) (bA 62 4398046511103) rfl rfl (any_of HT_.out (by kernel_rfl)) (fun _ _ _ h => h) (Or.inl ⟨by rfl, ?_⟩) ?_ ?_; rotate_left; (intro w'; go_simp; with_reducible rfl); rotate_left; (simp only [Act.put, setIfInBounds_toArray, set_cons_zero, set_cons_succ, i64_w, i32_w]; rfl)
                    refine pure_ (i := 42) (N := some 74) (v := ?_) (a' := ?_) (bA 62 8796093022207) rfl rfl (any_of HT_.out (by kernel_rfl)) (fun _ _ _ h => h) (Or.inl ⟨by rfl, ?_⟩) ?_ ?_; rotate_left; (intro w'; go_simp; with_reducible rfl); rotate_left; (simp only [Act.put, setIfInBounds_toArray, set_cons_zero, set_cons_succ, i64_w, i32_w]; rfl)
                    refine pure_ (i := 43) (N := some 75) (v := undef) (a' := ?_) (bA 62 17592186044415) rfl rfl (any_of HT_.out (by kernel_rfl)) (fun _ _ _ h => h) (Or.inr ⟨by rfl, rfl⟩) ?_ ?_; rotate_left; (simp only [Act.put, setIfInBounds_toArray, set_cons_zero, set_cons_succ, i64_w, i32_w]; rfl)
                    refine pure_ (i := 44) (N := some 76) (v := undef) (a' := ?_) (bA 62 35184372088831) rfl rfl (any_of HT_.out (by kernel_rfl)) (fun _ _ _ h => h) (Or.inr ⟨by rfl, rfl⟩) ?_ ?_; rotate_left; (simp only [Act.put, setIfInBounds_toArray, set_cons_zero, set_cons_succ, i64_w, i32_w]; rfl)
                    refine pure_ (i := 45) (N := some 77) (v := undef) (a' := ?_) (bA 62 70368744177663) rfl rfl (any_of HT_.out (by kernel_rfl)) (fun _ _ _ h => h) (Or.inr ⟨by rfl, rfl⟩) ?_ ?_; rotate_left; (simp only [Act.put, setIfInBounds_toArray, set_cons_zero, set_cons_succ, i64_w, i32_w]; rfl)
                    refine pure_ (i := 46) (N := some 78) (v := undef) (a' := ?_) (bA 62 140737488355327) rfl rfl (any_of HT_.out (by kernel_rfl)) (fun _ _ _ h => h) (Or.inr ⟨by rfl, rfl⟩) ?_ ?_; rotate_left; (simp only [Act.put, setIfInBounds_toArray, set_cons_zero, set_cons_succ, i64_w, i32_w]; rfl)
                    refine pure_ (i := 47) (N := some 79) (v := undef) (a' := ?_) (bA 62 281474976710655) rfl rfl (any_of HT_.out (by kernel_rfl)) (fun _ _ _ h => h) (Or.inr ⟨by rfl, rfl⟩) ?_ ?_; rotate_left; (simp only [Act.put, setIfInBounds_toArray, set_cons_zero, set_cons_succ, i64_w, i32_w]; rfl)
                    refine pure_ (i := 48) (N := some 80) (v := undef) (a' := ?_) (bA 62 562949953421311) rfl rfl (any_of HT_.out (by kernel_rfl)) (fun _ _ _ h => h) (Or.inr ⟨by rfl, rfl⟩) ?_ ?_; rotate_left; (simp only [Act.put, setIfInBounds_toArray, set_cons_zero, set_cons_succ, i64_w, i32_w]; rfl)
                    refine pure_ (i := 49) (N := some 81) (v := undef) (a' := ?_) (bA 62 1125899906842623) rfl rfl (any_of HT_.out (by kernel_rfl)) (fun _ _ _ h => h) (Or.inr ⟨by rfl, rfl⟩) ?_ ?_; rotate_left; (simp only [Act.put, setIfInBounds_toArray, set_cons_zero, set_cons_succ, i64_w, i32_w]; rfl)
                    refine pure_ (i := 50) (N := some 82) (v := undef) (a' := ?_) (bA 62 2251799813685247) rfl rfl (any_of HT_.out (by kernel_rfl)) (fun _ _ _ h => h) (Or.inr ⟨by rfl, rfl⟩) ?_ ?_; rotate_left; (simp only [Act.put, setIfInBounds_toArray, set_cons_zero, set_cons_succ, i64_w, i32_w]; rfl)
                    refine pure_ (i := 51) (N := some 83) (v := undef) (a' := ?_) (bA 62 4503599627370495) rfl rfl (any_of HT_.out (by kernel_rfl)) (fun _ _ _ h => h) (Or.inr ⟨by rfl, rfl⟩) ?_ ?_; rotate_left; (simp only [Act.put, setIfInBounds_toArray, set_cons_zero, set_cons_succ, i64_w, i32_w]; rfl)
                    refine pure_ (i := 52) (N := some 84) (v := undef) (a' := ?_) (bA 62 9007199254740991) rfl rfl (any_of HT_.out (by kernel_rfl)) (fun _ _ _ h => h) (Or.inr ⟨by rfl, rfl⟩) ?_ ?_; rotate_left; (simp only [Act.put, setIfInBounds_toArray, set_cons_zero, set_cons_succ, i64_w, i32_w]; rfl)
                    refine pure_ (i := 53) (N := some 85) (v := undef) (a' := ?_) (bA 62 18014398509481983) rfl rfl (any_of HT_.out (by kernel_rfl)) (fun _ _ _ h => h) (Or.inr ⟨by rfl, rfl⟩) ?_ ?_; rotate_left; (simp only [Act.put, setIfInBounds_toArray, set_cons_zero, set_cons_succ, i64_w, i32_w]; rfl)
                    refine pure_ (i := 54) (N := some 86) (v := undef) (a' := ?_) (bA 62 36028797018963967) rfl rfl (any_of HT_.out (by kernel_rfl)) (fun _ _ _ h => h) (Or.inr ⟨by rfl, rfl⟩) ?_ ?_; rotate_left; (simp only [Act.put, setIfInBounds_toArray, set_cons_zero, set_cons_succ, i64_w, i32_w]; rfl)
                    refine pure_ (i := 55) (N := some 87) (v := undef) (a' := ?_) (bA 62 72057594037927935) rfl rfl (any_of HT_.out (by kernel_rfl)) (fun _ _ _ h => h) (Or.inr ⟨by rfl, rfl⟩) ?_ ?_; rotate_left; (simp only [Act.put, setIfInBounds_toArray, set_cons_zero, set_cons_succ, i64_w, i32_w]; rfl)
                    refine pure_ (i := 56) (N := some 88) (v := undef) (a' := ?_) (bA 62 144115188075855871) rfl rfl (any_of HT_.out (by kernel_rfl)) (fun _ _ _ h => h) (Or.inr ⟨by rfl, rfl⟩) ?_ ?_; rotate_left; (simp only [Act.put, setIfInBounds_toArray, set_cons_zero, set_cons_succ, i64_w, i32_w]; rfl)
                    refine pure_ (i := 57) (N := some 89) (v := undef) (a' := ?_) (bA 62 288230376151711743) rfl rfl (any_of HT_.out (by kernel_rfl)) (fun _ _ _ h => h) (Or.inr ⟨by rfl, rfl⟩) ?_ ?_; rotate_left; (simp only [Act.put, setIfInBounds_toArray, set_cons_zero, set_cons_succ, i64_w, i32_w]; rfl)
                    refine pure_ (i := 58) (N := some 90) (v := undef) (a' := ?_) (bA 62 576460752303423487) rfl rfl (any_of HT_.out (by kernel_rfl)) (fun _ _ _ h => h) (Or.inr ⟨by rfl, rfl⟩) ?_ ?_; rotate_left; (simp only [Act.put, setIfInBounds_toArray, set_cons_zero, set_cons_succ, i64_w, i32_w]; rfl)
                    refine pure_ (i := 59) (N := some 91) (v := undef) (a' := ?_) (bA 62 1152921504606846975) rfl rfl (any_of HT_.out (by kernel_rfl)) (fun _ _ _ h => h) (Or.inr ⟨by rfl, rfl⟩) ?_ ?_; rotate_left; (simp only [Act.put, setIfInBounds_toArray, set_cons_zero, set_cons_succ, i64_w, i32_w]; rfl)
                    refine pure_ (i := 60) (N := some 92) (v := undef) (a' := ?_) (bA 62 2305843009213693951) rfl rfl (any_of HT_.out (by kernel_rfl)) (fun _ _ _ h => h) (Or.inr ⟨by rfl, rfl⟩) ?_ ?_; rotate_left; (simp only [Act.put, setIfInBounds_toArray, set_cons_zero, set_cons_succ, i64_w, i32_w]; rfl)
                    refine pure_ (i := 61) (N := some 93) (v := ?_) (a' := ?_) (bA 62 4611686018427387903) rfl rfl (any_of HT_.out (by kernel_rfl)) (fun _ _ _ h => h) (Or.inl ⟨by rfl, ?_⟩) ?_ ?_; rotate_left; (intro w'; go_simp; with_reducible rfl); rotate_left; (simp only [Act.put, setIfInBounds_toArray, set_cons_zero, set_cons_succ, i64_w, i32_w]; rfl)
                    refine done_ (done_of HT_.out (by kernel_rfl)) ?_
                    try go_wp2
                    go_meet
                    case rel => exact ⟨_, (true), (by first | rfl | (simp; done) | (simp [*]; done)), H', ⟨by have := HJ3.out; have := HK2.out; first | omega | exact Nat.le_refl _⟩, ⟨by (with_reducible repeat (first | apply Kd.R_alloc | apply Kd.R_drewN | apply Kd.R_drew)); exact HO_4.out⟩, ⟨by repeat (first | (with_reducible first | exact HB.out | apply below_alloc | apply pw_below_drewN | apply below_drew1) | exact HB.out)⟩⟩
                  · rw [if_neg c15] at H
                    have c15b0 : decide (((rd_T26 t511 x7_2).f2) < x6_2) = false := decide_eq_false c15
                    clear c15
                    by_cases c17 : ((rd_T26 t511 x7_2).f3) ≤ ((rd_T26 t511 x7_2).f2)
                    · rw [if_pos c17] at H
                      have c17b0 : decide (((rd_T26 t511 x7_2).f3) ≤ ((rd_T26 t511 x7_2).f2)) = true := decide_eq_true c17
                      clear c17
                      have H' := Aside0.mk H
                      clear H
                      try go_wp2
                      have n0_ := Aside0.mk (Kd.R_drew HO_4.out)
                      have n1_ := Aside0.mk (below_drew1 HB.out)
                      clear HO_4
                      clear HB
                      have HO_4 := n0_
                      have HB := n1_
                      clear n0_ n1_
                      have p516 : 0 ≤ (x7_2 : Int) := of_decide_eq_true (by first | (with_reducible assumption) | assumption)
                      have q516 : x7_2 < (t511.length : Int) := of_decide_eq_true (by first | (with_reducible assumption) | assumption)
                      obtain ⟨ad516, e516, hx516_0, hx516_1, hx516_2, hx516_3, hx516_4⟩ := at_T26 (Kd.R_reads' HO_4.out).2.2 x7_2 p516 q516
                      cases e516
                      replace p516 := eq_true p516
                      replace q516 := eq_true q516
                      have p517 : 0 ≤ (x7_2 : Int) := of_decide_eq_true (by first | (with_reducible assumption) | assumption)
                      have q517 : x7_2 < (t511.length : Int) := of_decide_eq_true (by first | (with_reducible assumption) | assumption)
                      obtain ⟨ad517, e517, hx517_0, hx517_1, hx517_2, hx517_3, hx517_4⟩ := at_T26 (Kd.R_reads' HO_4.out).2.2 x7_2 p517 q517
                      obtain rfl : ad516 = ad517 := (by injection e517)
                      replace p517 := eq_true p517
                      replace q517 := eq_true q517
                      have p518 : 0 ≤ (x7_2 : Int) := of_decide_eq_true (by first | (with_reducible assumption) | assumption)
                      have q518 : x7_2 < (t511.length : Int) := of_decide_eq_true (by first | (with_reducible assumption) | assumption)
                      obtain ⟨ad518, e518, hx518_0, hx518_1, hx518_2, hx518_3, hx518_4⟩ := at_T26 (Kd.R_reads' HO_4.out).2.2 x7_2 p518 q518
                      obtain rfl : ad516 = ad518 := (by injection e518)
                      replace p518 := eq_true p518
                      replace q518 := eq_true q518
                      refine start_ (n := 62) (S := fun w' => w'.cell? (ad516.add ((x7_2).toNat * 5)) = some (.int .i64 ((rd_T26 t511 x7_2).f0)) ∧ w'.cell? ⟨(ad516.add ((x7_2).toNat * 5)).block, (ad516.add ((x7_2).toNat * 5)).off + 1, none⟩ = some (.string ((rd_T26 t511 x7_2).f1)) ∧ w'.cell? ⟨(ad516.add ((x7_2).toNat * 5)).block, (ad516.add ((x7_2).toNat * 5)).off + 2, none⟩ = some (.int .i64 ((rd_T26 t511 x7_2).f2)) ∧ w'.cell? ⟨(ad516.add ((x7_2).toNat * 5)).block, (ad516.add ((x7_2).toNat * 5)).off + 3, none⟩ = some (.int .i64 ((rd_T26 t511 x7_2).f3)) ∧ w'.cell? ⟨(ad516.add ((x7_2).toNat * 5)).block, (ad516.add ((x7_2).toNat * 5)).off + 4, none⟩ = some (.bool ((rd_T26 t511 x7_2).f4)) ∧ w'.cell? (ad516.add ((x7_2).toNat * 5)) = some (.int .i64 ((rd_T26 t511 x7_2).f0)) ∧ w'.cell? ⟨(ad516.add ((x7_2).toNat * 5)).block, (ad516.add ((x7_2).toNat * 5)).off + 1, none⟩ = some (.string ((rd_T26 t511 x7_2).f1)) ∧ w'.cell? ⟨(ad516.add ((x7_2).toNat * 5)).block, (ad516.add ((x7_2).toNat * 5)).off + 2, none⟩ = some (.int .i64 ((rd_T26 t511 x7_2).f2)) ∧ w'.cell? ⟨(ad516.add ((x7_2).toNat * 5)).block, (ad516.add ((x7_2).toNat * 5)).off + 3, none⟩ = some (.int .i64 ((rd_T26 t511 x7_2).f3)) ∧ w'.cell? ⟨(ad516.add ((x7_2).toNat * 5)).block, (ad516.add ((x7_2).toNat * 5)).off + 4, none⟩ = some (.bool ((rd_T26 t511 x7_2).f4)) ∧ w'.cell? (ad516.add ((x7_2).toNat * 5)) = some (.int .i64 ((rd_T26 t511 x7_2).f0)) ∧ w'.cell? ⟨(ad516.add ((x7_2).toNat * 5)).block, (ad516.add ((x7_2).toNat * 5)).off + 1, none⟩ = some (.string ((rd_T26 t511 x7_2).f1)) ∧ w'.cell? ⟨(ad516.add ((x7_2).toNat * 5)).block, (ad516.add ((x7_2).toNat * 5)).off + 2, none⟩ = some (.int .i64 ((rd_T26 t511 x7_2).f2)) ∧ w'.cell? ⟨(ad516.add ((x7_2).toNat * 5)).block, (ad516.add ((x7_2).toNat * 5)).off + 3, none⟩ = some (.int .i64 ((rd_T26 t511 x7_2).f3)) ∧ w'.cell? ⟨(ad516.add ((x7_2).toNat * 5)).block, (ad516.add ((x7_2).toNat * 5)).off + 4, none⟩ = some (.bool ((rd_T26 t511 x7_2).f4))) (ds := []) (bA 62 0) (by kernel_rfl) rfl rfl ⟨hx516_0, hx516_1, hx516_2, hx516_3, hx516_4, hx517_0, hx517_1, hx517_2, hx517_3, hx517_4, hx518_0, hx518_1, hx518_2, hx518_3, hx518_4⟩ (fun hHeld => ?_); refine with_tabW regletlaw02_ScanCovers.tab9 regletlaw02_ScanCovers.bits9 (fun HT_ HW_ => ?_)
                      generalize wr.drew = w18 at HO_4 HB hx516_0 hx516_1 hx516_2 hx516_3 hx516_4 hx517_0 hx517_1 hx517_2 hx517_3 hx517_4 hx518_0 hx518_1 hx518_2 hx518_3 hx518_4 hHeld ⊢
                      refine pure_ (i := 0) (N := some 32) (v := ?_) (a' := ?_) (bA 62 1) rfl rfl (any_of HT_.out (by kernel_rfl)) (fun _ _ _ h => h) (Or.inl ⟨by rfl, ?_⟩) ?_ ?_; rotate_left; (intro w'; go_simp; with_reducible rfl); rotate_left; (simp only [Act.put, setIfInBounds_toArray, set_cons_zero, set_cons_succ, i64_w, i32_w]; rfl)
                      refine pure_ (i := 1) (N := some 33) (v := ?_) (a' := ?_) (bA 62 3) rfl rfl (any_of HT_.out (by kernel_rfl)) (fun _ _ _ h => h) (Or.inl ⟨by rfl, ?_⟩) ?_ ?_; rotate_left; (intro w'; go_simp; with_reducible rfl); rotate_left; (simp only [Act.put, setIfInBounds_toArray, set_cons_zero, set_cons_succ, i64_w, i32_w]; rfl)
                      refine pure_ (i := 2) (N := some 34) (v := ?_) (a' := ?_) (bA 62 7) rfl rfl (any_of HT_.out (by kernel_rfl)) (fun _ _ _ h => h) (Or.inl ⟨by rfl, ?_⟩) ?_ ?_; rotate_left; (intro w'; go_simp; with_reducible rfl); rotate_left; (simp only [Act.put, setIfInBounds_toArray, set_cons_zero, set_cons_succ, i64_w, i32_w]; rfl)
                      refine pure_ (i := 3) (N := some 35) (v := ?_) (a' := ?_) (bA 62 15) rfl rfl (any_of HT_.out (by kernel_rfl)) (fun _ _ _ h => h) (Or.inl ⟨by rfl, ?_⟩) ?_ ?_; rotate_left; (intro w'; go_simp; with_reducible rfl); rotate_left; (simp only [Act.put, setIfInBounds_toArray, set_cons_zero, set_cons_succ, i64_w, i32_w]; rfl)
                      refine pure_ (i := 5) (N := some 37) (v := ?_) (a' := ?_) (bA 62 47) rfl rfl (any_of HT_.out (by kernel_rfl)) (fun _ _ _ h => h) (Or.inl ⟨by rfl, ?_⟩) ?_ ?_; rotate_left; (intro w'; go_simp; with_reducible rfl); rotate_left; (simp only [Act.put, setIfInBounds_toArray, set_cons_zero, set_cons_succ, i64_w, i32_w]; rfl)
                      refine take_ (i := 4) (N := some 36) (v := ?_) (a' := ?_) (bA 62 63) rfl rfl (take_ofW HT_.out HW_.out (by kernel_rfl)) (fun _ _ _ h => h) (Or.inl ⟨by rfl, ?_⟩) hHeld ?_ ?_; rotate_left; (rintro w' ⟨s0, s1, s2, s3, s4, s5, s6, s7, s8, s9, s10, s11, s12, s13, s14⟩; go_simp; with_reducible rfl); rotate_left; (simp only [Act.put, setIfInBounds_toArray, set_cons_zero, set_cons_succ, i64_w, i32_w]; rfl)
                      refine pure_ (i := 6) (N := some 38) (v := ?_) (a' := ?_) (bA 62 127) rfl rfl (any_of HT_.out (by kernel_rfl)) (fun _ _ _ h => h) (Or.inl ⟨by rfl, ?_⟩) ?_ ?_; rotate_left; (intro w'; go_simp; with_reducible rfl); rotate_left; (simp only [Act.put, setIfInBounds_toArray, set_cons_zero, set_cons_succ, i64_w, i32_w]; rfl)
                      refine pure_ (i := 7) (N := some 39) (v := ?_) (a' := ?_) (bA 62 255) rfl rfl (any_of HT_.out (by kernel_rfl)) (fun _ _ _ h => h) (Or.inl ⟨by rfl, ?_⟩) ?_ ?_; rotate_left; (intro w'; go_simp; with_reducible rfl); rotate_left; (simp only [Act.put, setIfInBounds_toArray, set_cons_zero, set_cons_succ, i64_w, i32_w]; rfl)
                      refine pure_ (i := 8) (N := some 40) (v := ?_) (a' := ?_) (bA 62 511) rfl rfl (any_of HT_.out (by kernel_rfl)) (fun _ _ _ h => h) (Or.inl ⟨by rfl, ?_⟩) ?_ ?_; rotate_left; (intro w'; go_simp; with_reducible rfl); rotate_left; (simp only [Act.put, setIfInBounds_toArray, set_cons_zero, set_cons_succ, i64_w, i32_w]; rfl)
                      refine pure_ (i := 9) (N := some 41) (v := ?_) (a' := ?_) (bA 62 1023) rfl rfl (any_of HT_.out (by kernel_rfl)) (fun _ _ _ h => h) (Or.inl ⟨by rfl, ?_⟩) ?_ ?_; rotate_left; (intro w'; go_simp; with_reducible rfl); rotate_left; (simp only [Act.put, setIfInBounds_toArray, set_cons_zero, set_cons_succ, i64_w, i32_w]; rfl)
                      refine pure_ (i := 10) (N := some 42) (v := ?_) (a' := ?_) (bA 62 2047) rfl rfl (any_of HT_.out (by kernel_rfl)) (fun _ _ _ h => h) (Or.inl ⟨by rfl, ?_⟩) ?_ ?_; rotate_left; (intro w'; go_simp; with_reducible rfl); rotate_left; (simp only [Act.put, setIfInBounds_toArray, set_cons_zero, set_cons_succ, i64_w, i32_w]; rfl)
                      refine pure_ (i := 11) (N := some 43) (v := ?_) (a' := ?_) (bA 62 4095) rfl rfl (any_of HT_.out (by kernel_rfl)) (fun _ _ _ h => h) (Or.inl ⟨by rfl, ?_⟩) ?_ ?_; rotate_left; (intro w'; go_simp; with_reducible rfl); rotate_left; (simp only [Act.put, setIfInBounds_toArray, set_cons_zero, set_cons_succ, i64_w, i32_w]; rfl)
                      refine pure_ (i := 13) (N := some 45) (v := ?_) (a' := ?_) (bA 62 12287) rfl rfl (any_of HT_.out (by kernel_rfl)) (fun _ _ _ h => h) (Or.inl ⟨by rfl, ?_⟩) ?_ ?_; rotate_left; (intro w'; go_simp; with_reducible rfl); rotate_left; (simp only [Act.put, setIfInBounds_toArray, set_cons_zero, set_cons_succ, i64_w, i32_w]; rfl)
                      refine pure_ (i := 14) (N := some 46) (v := ?_) (a' := ?_) (bA 62 28671) rfl rfl (any_of HT_.out (by kernel_rfl)) (fun _ _ _ h => h) (Or.inl ⟨by rfl, ?_⟩) ?_ ?_; rotate_left; (intro w'; go_simp; with_reducible rfl); rotate_left; (simp only [Act.put, setIfInBounds_toArray, set_cons_zero, set_cons_succ, i64_w, i32_w]; rfl)
                      refine pure_ (i := 15) (N := some 47) (v := ?_) (a' := ?_) (bA 62 61439) rfl rfl (any_of HT_.out (by kernel_rfl)) (fun _ _ _ h => h) (Or.inl ⟨by rfl, ?_⟩) ?_ ?_; rotate_left; (intro w'; go_simp; with_reducible rfl); rotate_left; (simp only [Act.put, setIfInBounds_toArray, set_cons_zero, set_cons_succ, i64_w, i32_w]; rfl)
                      refine pure_ (i := 16) (N := some 48) (v := ?_) (a' := ?_) (bA 62 126975) rfl rfl (any_of HT_.out (by kernel_rfl)) (fun _ _ _ h => h) (Or.inl ⟨by rfl, ?_⟩) ?_ ?_; rotate_left; (intro w'; go_simp; with_reducible rfl); rotate_left; (simp only [Act.put, setIfInBounds_toArray, set_cons_zero, set_cons_succ, i64_w, i32_w]; rfl)
                      refine take_ (i := 12) (N := some 44) (v := ?_) (a' := ?_) (bA 62 131071) rfl rfl (take_ofW HT_.out HW_.out (by kernel_rfl)) (fun _ _ _ h => h) (Or.inl ⟨by rfl, ?_⟩) hHeld ?_ ?_; rotate_left; (rintro w' ⟨s0, s1, s2, s3, s4, s5, s6, s7, s8, s9, s10, s11, s12, s13, s14⟩; go_simp; with_reducible rfl); rotate_left; (simp only [Act.put, setIfInBounds_toArray, set_cons_zero, set_cons_succ, i64_w, i32_w]; rfl)
                      refine take_ (i := 17) (N := some 49) (v := ?_) (a' := ?_) (bA 62 262143) rfl rfl (take_ofW HT_.out HW_.out (by kernel_rfl)) (fun _ _ _ h => h) (Or.inl ⟨by rfl, ?_⟩) hHeld ?_ ?_; rotate_left; (rintro w' ⟨s0, s1, s2, s3, s4, s5, s6, s7, s8, s9, s10, s11, s12, s13, s14⟩; go_simp; with_reducible rfl); rotate_left; (simp only [Act.put, setIfInBounds_toArray, set_cons_zero, set_cons_succ, i64_w, i32_w]; rfl)
                      refine pure_ (i := 18) (N := some 50) (v := ?_) (a' := ?_) (bA 62 524287) rfl rfl (any_of HT_.out (by kernel_rfl)) (fun _ _ _ h => h) (Or.inl ⟨by rfl, ?_⟩) ?_ ?_; rotate_left; (intro w'; go_simp; with_reducible rfl); rotate_left; (simp only [Act.put, setIfInBounds_toArray, set_cons_zero, set_cons_succ, i64_w, i32_w]; rfl)
                      refine pure_ (i := 19) (N := some 51) (v := ?_) (a' := ?_) (bA 62 1048575) rfl rfl (any_of HT_.out (by kernel_rfl)) (fun _ _ _ h => h) (Or.inl ⟨by rfl, ?_⟩) ?_ ?_; rotate_left; (intro w'; go_simp; with_reducible rfl); rotate_left; (simp only [Act.put, setIfInBounds_toArray, set_cons_zero, set_cons_succ, i64_w, i32_w]; rfl)
                      refine pure_ (i := 20) (N := some 52) (v := ?_) (a' := ?_) (bA 62 2097151) rfl rfl (any_of HT_.out (by kernel_rfl)) (fun _ _ _ h => h) (Or.inl ⟨by rfl, ?_⟩) ?_ ?_; rotate_left; (intro w'; go_simp; with_reducible rfl); rotate_left; (simp only [Act.put, setIfInBounds_toArray, set_cons_zero, set_cons_succ, i64_w, i32_w]; rfl)
                      refine pure_ (i := 21) (N := some 53) (v := undef) (a' := ?_) (bA 62 4194303) rfl rfl (any_of HT_.out (by kernel_rfl)) (fun _ _ _ h => h) (Or.inr ⟨by rfl, rfl⟩) ?_ ?_; rotate_left; (simp only [Act.put, setIfInBounds_toArray, set_cons_zero, set_cons_succ, i64_w, i32_w]; rfl)
                      refine pure_ (i := 22) (N := some 54) (v := undef) (a' := ?_) (bA 62 8388607) rfl rfl (any_of HT_.out (by kernel_rfl)) (fun _ _ _ h => h) (Or.inr ⟨by rfl, rfl⟩) ?_ ?_; rotate_left; (simp only [Act.put, setIfInBounds_toArray, set_cons_zero, set_cons_succ, i64_w, i32_w]; rfl)
                      refine pure_ (i := 23) (N := some 55) (v := undef) (a' := ?_) (bA 62 16777215) rfl rfl (any_of HT_.out (by kernel_rfl)) (fun _ _ _ h => h) (Or.inr ⟨by rfl, rfl⟩) ?_ ?_; rotate_left; (simp only [Act.put, setIfInBounds_toArray, set_cons_zero, set_cons_succ, i64_w, i32_w]; rfl)
                      refine pure_ (i := 24) (N := some 56) (v := undef) (a' := ?_) (bA 62 33554431) rfl rfl (any_of HT_.out (by kernel_rfl)) (fun _ _ _ h => h) (Or.inr ⟨by rfl, rfl⟩) ?_ ?_; rotate_left; (simp only [Act.put, setIfInBounds_toArray, set_cons_zero, set_cons_succ, i64_w, i32_w]; rfl)
                      refine pure_ (i := 25) (N := some 57) (v := undef) (a' := ?_) (bA 62 67108863) rfl rfl (any_of HT_.out (by kernel_rfl)) (fun _ _ _ h => h) (Or.inr ⟨by rfl, rfl⟩) ?_ ?_; rotate_left; (simp only [Act.put, setIfInBounds_toArray, set_cons_zero, set_cons_succ, i64_w, i32_w]; rfl)
                      refine pure_ (i := 26) (N := some 58) (v := undef) (a' := ?_) (bA 62 134217727) rfl rfl (any_of HT_.out (by kernel_rfl)) (fun _ _ _ h => h) (Or.inr ⟨by rfl, rfl⟩) ?_ ?_; rotate_left; (simp only [Act.put, setIfInBounds_toArray, set_cons_zero, set_cons_succ, i64_w, i32_w]; rfl)
                      refine pure_ (i := 27) (N := some 59) (v := undef) (a' := ?_) (bA 62 268435455) rfl rfl (any_of HT_.out (by kernel_rfl)) (fun _ _ _ h => h) (Or.inr ⟨by rfl, rfl⟩) ?_ ?_; rotate_left; (simp only [Act.put, setIfInBounds_toArray, set_cons_zero, set_cons_succ, i64_w, i32_w]; rfl)
                      refine pure_ (i := 28) (N := some 60) (v := undef) (a' := ?_) (bA 62 536870911) rfl rfl (any_of HT_.out (by kernel_rfl)) (fun _ _ _ h => h) (Or.inr ⟨by rfl, rfl⟩) ?_ ?_; rotate_left; (simp only [Act.put, setIfInBounds_toArray, set_cons_zero, set_cons_succ, i64_w, i32_w]; rfl)
                      refine pure_ (i := 29) (N := some 61) (v := ?_) (a' := ?_) (bA 62 1073741823) rfl rfl (any_of HT_.out (by kernel_rfl)) (fun _ _ _ h => h) (Or.inl ⟨by rfl, ?_⟩) ?_ ?_; rotate_left; (intro w'; go_simp; with_reducible rfl); rotate_left; (simp only [Act.put, setIfInBounds_toArray, set_cons_zero, set_cons_succ, i64_w, i32_w]; rfl)
                      refine pure_ (i := 30) (N := some 62) (v := ?_) (a' := ?_) (bA 62 2147483647) rfl rfl (any_of HT_.out (by kernel_rfl)) (fun _ _ _ h => h) (Or.inl ⟨by rfl, ?_⟩) ?_ ?_; rotate_left; (intro w'; go_simp; with_reducible rfl); rotate_left; (simp only [Act.put, setIfInBounds_toArray, set_cons_zero, set_cons_succ, i64_w, i32_w]; rfl)
                      refine pure_ (i := 31) (N := some 63) (v := undef) (a' := ?_) (bA 62 4294967295) rfl rfl (any_of HT_.out (by kernel_rfl)) (fun _ _ _ h => h) (Or.inr ⟨by rfl, rfl⟩) ?_ ?_; rotate_left; (simp only [Act.put, setIfInBounds_toArray, set_cons_zero, set_cons_succ, i64_w, i32_w]; rfl)
                      refine pure_ (i := 32) (N := some 64) (v := undef) (a' := ?_) (bA 62 8589934591) rfl rfl (any_of HT_.out (by kernel_rfl)) (fun _ _ _ h => h) (Or.inr ⟨by rfl, rfl⟩) ?_ ?_; rotate_left; (simp only [Act.put, setIfInBounds_toArray, set_cons_zero, set_cons_succ, i64_w, i32_w]; rfl)
                      refine pure_ (i := 33) (N := some 65) (v := undef) (a' := ?_) (bA 62 17179869183) rfl rfl (any_of HT_.out (by kernel_rfl)) (fun _ _ _ h => h) (Or.inr ⟨by rfl, rfl⟩) ?_ ?_; rotate_left; (simp only [Act.put, setIfInBounds_toArray, set_cons_zero, set_cons_succ, i64_w, i32_w]; rfl)
                      refine pure_ (i := 34) (N := some 66) (v := undef) (a' := ?_) (bA 62 34359738367) rfl rfl (any_of HT_.out (by kernel_rfl)) (fun _ _ _ h => h) (Or.inr ⟨by rfl, rfl⟩) ?_ ?_; rotate_left; (simp only [Act.put, setIfInBounds_toArray, set_cons_zero, set_cons_succ, i64_w, i32_w]; rfl)
                      refine pure_ (i := 35) (N := some 67) (v := undef) (a' := ?_) (bA 62 68719476735) rfl rfl (any_of HT_.out (by kernel_rfl)) (fun _ _ _ h => h) (Or.inr ⟨by rfl, rfl⟩) ?_ ?_; rotate_left; (simp only [Act.put, setIfInBounds_toArray, set_cons_zero, set_cons_succ, i64_w, i32_w]; rfl)
                      refine pure_ (i := 36) (N := some 68) (v := undef) (a' := ?_) (bA 62 137438953471) rfl rfl (any_of HT_.out (by kernel_rfl)) (fun _ _ _ h => h) (Or.inr ⟨by rfl, rfl⟩) ?_ ?_; rotate_left; (simp only [Act.put, setIfInBounds_toArray, set_cons_zero, set_cons_succ, i64_w, i32_w]; rfl)
                      refine pure_ (i := 37) (N := some 69) (v := undef) (a' := ?_) (bA 62 274877906943) rfl rfl (any_of HT_.out (by kernel_rfl)) (fun _ _ _ h => h) (Or.inr ⟨by rfl, rfl⟩) ?_ ?_; rotate_left; (simp only [Act.put, setIfInBounds_toArray, set_cons_zero, set_cons_succ, i64_w, i32_w]; rfl)
                      refine pure_ (i := 38) (N := some 70) (v := undef) (a' := ?_) (bA 62 549755813887) rfl rfl (any_of HT_.out (by kernel_rfl)) (fun _ _ _ h => h) (Or.inr ⟨by rfl, rfl⟩) ?_ ?_; rotate_left; (simp only [Act.put, setIfInBounds_toArray, set_cons_zero, set_cons_succ, i64_w, i32_w]; rfl)
                      refine pure_ (i := 39) (N := some 71) (v := undef) (a' := ?_) (bA 62 1099511627775) rfl rfl (any_of HT_.out (by kernel_rfl)) (fun _ _ _ h => h) (Or.inr ⟨by rfl, rfl⟩) ?_ ?_; rotate_left; (simp only [Act.put, setIfInBounds_toArray, set_cons_zero, set_cons_succ, i64_w, i32_w]; rfl)
                      refine pure_ (i := 40) (N := some 72) (v := undef) (a' := ?_) (bA 62 2199023255551) rfl rfl (any_of HT_.out (by kernel_rfl)) (fun _ _ _ h => h) (Or.inr ⟨by rfl, rfl⟩) ?_ ?_; rotate_left; (simp only [Act.put, setIfInBounds_toArray, set_cons_zero, set_cons_succ, i64_w, i32_w]; rfl)
                      refine pure_ (i := 41) (N := some 73) (v := ?_) (a' := ?_) (bA 62 4398046511103) rfl rfl (any_of HT_.out (by kernel_rfl)) (fun _ _ _ h => h) (Or.inl ⟨by rfl, ?_⟩) ?_ ?_; rotate_left; (intro w'; go_simp; with_reducible rfl); rotate_left; (simp only [Act.put, setIfInBounds_toArray, set_cons_zero, set_cons_succ, i64_w, i32_w]; rfl)
                      refine pure_ (i := 42) (N := some 74) (v := ?_) (a' := ?_) (bA 62 8796093022207) rfl rfl (any_of HT_.out (by kernel_rfl)) (fun _ _ _ h => h) (Or.inl ⟨by rfl, ?_⟩) ?_ ?_; rotate_left; (intro w'; go_simp; with_reducible rfl); rotate_left; (simp only [Act.put, setIfInBounds_toArray, set_cons_zero, set_cons_succ, i64_w, i32_w]; rfl)
                      refine pure_ (i := 43) (N := some 75) (v := undef) (a' := ?_) (bA 62 17592186044415) rfl rfl (any_of HT_.out (by kernel_rfl)) (fun _ _ _ h => h) (Or.inr ⟨by rfl, rfl⟩) ?_ ?_; rotate_left; (simp only [Act.put, setIfInBounds_toArray, set_cons_zero, set_cons_succ, i64_w, i32_w]; rfl)
                      refine pure_ (i := 44) (N := some 76) (v := undef) (a' := ?_) (bA 62 35184372088831) rfl rfl (any_of HT_.out (by kernel_rfl)) (fun _ _ _ h => h) (Or.inr ⟨by rfl, rfl⟩) ?_ ?_; rotate_left; (simp only [Act.put, setIfInBounds_toArray, set_cons_zero, set_cons_succ, i64_w, i32_w]; rfl)
                      refine pure_ (i := 45) (N := some 77) (v := undef) (a' := ?_) (bA 62 70368744177663) rfl rfl (any_of HT_.out (by kernel_rfl)) (fun _ _ _ h => h) (Or.inr ⟨by rfl, rfl⟩) ?_ ?_; rotate_left; (simp only [Act.put, setIfInBounds_toArray, set_cons_zero, set_cons_succ, i64_w, i32_w]; rfl)
                      refine pure_ (i := 46) (N := some 78) (v := undef) (a' := ?_) (bA 62 140737488355327) rfl rfl (any_of HT_.out (by kernel_rfl)) (fun _ _ _ h => h) (Or.inr ⟨by rfl, rfl⟩) ?_ ?_; rotate_left; (simp only [Act.put, setIfInBounds_toArray, set_cons_zero, set_cons_succ, i64_w, i32_w]; rfl)
                      refine pure_ (i := 47) (N := some 79) (v := undef) (a' := ?_) (bA 62 281474976710655) rfl rfl (any_of HT_.out (by kernel_rfl)) (fun _ _ _ h => h) (Or.inr ⟨by rfl, rfl⟩) ?_ ?_; rotate_left; (simp only [Act.put, setIfInBounds_toArray, set_cons_zero, set_cons_succ, i64_w, i32_w]; rfl)
                      refine pure_ (i := 48) (N := some 80) (v := undef) (a' := ?_) (bA 62 562949953421311) rfl rfl (any_of HT_.out (by kernel_rfl)) (fun _ _ _ h => h) (Or.inr ⟨by rfl, rfl⟩) ?_ ?_; rotate_left; (simp only [Act.put, setIfInBounds_toArray, set_cons_zero, set_cons_succ, i64_w, i32_w]; rfl)
                      refine pure_ (i := 49) (N := some 81) (v := undef) (a' := ?_) (bA 62 1125899906842623) rfl rfl (any_of HT_.out (by kernel_rfl)) (fun _ _ _ h => h) (Or.inr ⟨by rfl, rfl⟩) ?_ ?_; rotate_left; (simp only [Act.put, setIfInBounds_toArray, set_cons_zero, set_cons_succ, i64_w, i32_w]; rfl)
                      refine pure_ (i := 50) (N := some 82) (v := undef) (a' := ?_) (bA 62 2251799813685247) rfl rfl (any_of HT_.out (by kernel_rfl)) (fun _ _ _ h => h) (Or.inr ⟨by rfl, rfl⟩) ?_ ?_; rotate_left; (simp only [Act.put, setIfInBounds_toArray, set_cons_zero, set_cons_succ, i64_w, i32_w]; rfl)
                      refine pure_ (i := 51) (N := some 83) (v := undef) (a' := ?_) (bA 62 4503599627370495) rfl rfl (any_of HT_.out (by kernel_rfl)) (fun _ _ _ h => h) (Or.inr ⟨by rfl, rfl⟩) ?_ ?_; rotate_left; (simp only [Act.put, setIfInBounds_toArray, set_cons_zero, set_cons_succ, i64_w, i32_w]; rfl)
                      refine pure_ (i := 52) (N := some 84) (v := undef) (a' := ?_) (bA 62 9007199254740991) rfl rfl (any_of HT_.out (by kernel_rfl)) (fun _ _ _ h => h) (Or.inr ⟨by rfl, rfl⟩) ?_ ?_; rotate_left; (simp only [Act.put, setIfInBounds_toArray, set_cons_zero, set_cons_succ, i64_w, i32_w]; rfl)
                      refine pure_ (i := 53) (N := some 85) (v := undef) (a' := ?_) (bA 62 18014398509481983) rfl rfl (any_of HT_.out (by kernel_rfl)) (fun _ _ _ h => h) (Or.inr ⟨by rfl, rfl⟩) ?_ ?_; rotate_left; (simp only [Act.put, setIfInBounds_toArray, set_cons_zero, set_cons_succ, i64_w, i32_w]; rfl)
                      refine pure_ (i := 54) (N := some 86) (v := undef) (a' := ?_) (bA 62 36028797018963967) rfl rfl (any_of HT_.out (by kernel_rfl)) (fun _ _ _ h => h) (Or.inr ⟨by rfl, rfl⟩) ?_ ?_; rotate_left; (simp only [Act.put, setIfInBounds_toArray, set_cons_zero, set_cons_succ, i64_w, i32_w]; rfl)
                      refine pure_ (i := 55) (N := some 87) (v := undef) (a' := ?_) (bA 62 72057594037927935) rfl rfl (any_of HT_.out (by kernel_rfl)) (fun _ _ _ h => h) (Or.inr ⟨by rfl, rfl⟩) ?_ ?_; rotate_left; (simp only [Act.put, setIfInBounds_toArray, set_cons_zero, set_cons_succ, i64_w, i32_w]; rfl)
                      refine pure_ (i := 56) (N := some 88) (v := undef) (a' := ?_) (bA 62 144115188075855871) rfl rfl (any_of HT_.out (by kernel_rfl)) (fun _ _ _ h => h) (Or.inr ⟨by rfl, rfl⟩) ?_ ?_; rotate_left; (simp only [Act.put, setIfInBounds_toArray, set_cons_zero, set_cons_succ, i64_w, i32_w]; rfl)
                      refine pure_ (i := 57) (N := some 89) (v := undef) (a' := ?_) (bA 62 288230376151711743) rfl rfl (any_of HT_.out (by kernel_rfl)) (fun _ _ _ h => h) (Or.inr ⟨by rfl, rfl⟩) ?_ ?_; rotate_left; (simp only [Act.put, setIfInBounds_toArray, set_cons_zero, set_cons_succ, i64_w, i32_w]; rfl)
                      refine pure_ (i := 58) (N := some 90) (v := undef) (a' := ?_) (bA 62 576460752303423487) rfl rfl (any_of HT_.out (by kernel_rfl)) (fun _ _ _ h => h) (Or.inr ⟨by rfl, rfl⟩) ?_ ?_; rotate_left; (simp only [Act.put, setIfInBounds_toArray, set_cons_zero, set_cons_succ, i64_w, i32_w]; rfl)
                      refine pure_ (i := 59) (N := some 91) (v := undef) (a' := ?_) (bA 62 1152921504606846975) rfl rfl (any_of HT_.out (by kernel_rfl)) (fun _ _ _ h => h) (Or.inr ⟨by rfl, rfl⟩) ?_ ?_; rotate_left; (simp only [Act.put, setIfInBounds_toArray, set_cons_zero, set_cons_succ, i64_w, i32_w]; rfl)
                      refine pure_ (i := 60) (N := some 92) (v := undef) (a' := ?_) (bA 62 2305843009213693951) rfl rfl (any_of HT_.out (by kernel_rfl)) (fun _ _ _ h => h) (Or.inr ⟨by rfl, rfl⟩) ?_ ?_; rotate_left; (simp only [Act.put, setIfInBounds_toArray, set_cons_zero, set_cons_succ, i64_w, i32_w]; rfl)
                      refine pure_ (i := 61) (N := some 93) (v := ?_) (a' := ?_) (bA 62 4611686018427387903) rfl rfl (any_of HT_.out (by kernel_rfl)) (fun _ _ _ h => h) (Or.inl ⟨by rfl, ?_⟩) ?_ ?_; rotate_left; (intro w'; go_simp; with_reducible rfl); rotate_left; (simp only [Act.put, setIfInBounds_toArray, set_cons_zero, set_cons_succ, i64_w, i32_w]; rfl)
                      refine done_ (done_of HT_.out (by kernel_rfl)) ?_
                      try go_wp2
                      go_meet
                      case rel => exact ⟨_, (true), (by first | rfl | (simp; done) | (simp [*]; done)), H', ⟨by have := HJ3.out; have := HK2.out; first | omega | exact Nat.le_refl _⟩, ⟨by (with_reducible repeat (first | apply Kd.R_alloc | apply Kd.R_drewN | apply Kd.R_drew)); exact HO_4.out⟩, ⟨by repeat (first | (with_reducible first | exact HB.out | apply below_alloc | apply pw_below_drewN | apply below_drew1) | exact HB.out)⟩⟩
                    · rw [if_neg c17] at H
                      have c17b0 : decide (((rd_T26 t511 x7_2).f3) ≤ ((rd_T26 t511 x7_2).f2)) = false := decide_eq_false c17
                      clear c17
                      by_cases c19 : ((rd_T26 t511 x7_2).f3) > (a0.size : Int)
                      · rw [if_pos c19] at H
                        have c19b0 : decide ((a0.size : Int) < ((rd_T26 t511 x7_2).f3)) = true := decide_eq_true c19
                        clear c19
                        have H' := Aside0.mk H
                        clear H
                        try go_wp2
                        have n0_ := Aside0.mk (Kd.R_drew HO_4.out)
                        have n1_ := Aside0.mk (below_drew1 HB.out)
                        clear HO_4
                        clear HB
                        have HO_4 := n0_
                        have HB := n1_
                        clear n0_ n1_
                        have p516 : 0 ≤ (x7_2 : Int) := of_decide_eq_true (by first | (with_reducible assumption) | assumption)
                        have q516 : x7_2 < (t511.length : Int) := of_decide_eq_true (by first | (with_reducible assumption) | assumption)
                        obtain ⟨ad516, e516, hx516_0, hx516_1, hx516_2, hx516_3, hx516_4⟩ := at_T26 (Kd.R_reads' HO_4.out).2.2 x7_2 p516 q516
                        cases e516
                        replace p516 := eq_true p516
                        replace q516 := eq_true q516
                        have p517 : 0 ≤ (x7_2 : Int) := of_decide_eq_true (by first | (with_reducible assumption) | assumption)
                        have q517 : x7_2 < (t511.length : Int) := of_decide_eq_true (by first | (with_reducible assumption) | assumption)
                        obtain ⟨ad517, e517, hx517_0, hx517_1, hx517_2, hx517_3, hx517_4⟩ := at_T26 (Kd.R_reads' HO_4.out).2.2 x7_2 p517 q517
                        obtain rfl : ad516 = ad517 := (by injection e517)
                        replace p517 := eq_true p517
                        replace q517 := eq_true q517
                        have p518 : 0 ≤ (x7_2 : Int) := of_decide_eq_true (by first | (with_reducible assumption) | assumption)
                        have q518 : x7_2 < (t511.length : Int) := of_decide_eq_true (by first | (with_reducible assumption) | assumption)
                        obtain ⟨ad518, e518, hx518_0, hx518_1, hx518_2, hx518_3, hx518_4⟩ := at_T26 (Kd.R_reads' HO_4.out).2.2 x7_2 p518 q518
                        obtain rfl : ad516 = ad518 := (by injection e518)
                        replace p518 := eq_true p518
                        replace q518 := eq_true q518
                        have p519 : 0 ≤ (x7_2 : Int) := of_decide_eq_true (by first | (with_reducible assumption) | assumption)
                        have q519 : x7_2 < (t511.length : Int) := of_decide_eq_true (by first | (with_reducible assumption) | assumption)
                        obtain ⟨ad519, e519, hx519_0, hx519_1, hx519_2, hx519_3, hx519_4⟩ := at_T26 (Kd.R_reads' HO_4.out).2.2 x7_2 p519 q519
                        obtain rfl : ad516 = ad519 := (by injection e519)
                        replace p519 := eq_true p519
                        replace q519 := eq_true q519
                        refine start_ (n := 62) (S := fun w' => w'.cell? (ad516.add ((x7_2).toNat * 5)) = some (.int .i64 ((rd_T26 t511 x7_2).f0)) ∧ w'.cell? ⟨(ad516.add ((x7_2).toNat * 5)).block, (ad516.add ((x7_2).toNat * 5)).off + 1, none⟩ = some (.string ((rd_T26 t511 x7_2).f1)) ∧ w'.cell? ⟨(ad516.add ((x7_2).toNat * 5)).block, (ad516.add ((x7_2).toNat * 5)).off + 2, none⟩ = some (.int .i64 ((rd_T26 t511 x7_2).f2)) ∧ w'.cell? ⟨(ad516.add ((x7_2).toNat * 5)).block, (ad516.add ((x7_2).toNat * 5)).off + 3, none⟩ = some (.int .i64 ((rd_T26 t511 x7_2).f3)) ∧ w'.cell? ⟨(ad516.add ((x7_2).toNat * 5)).block, (ad516.add ((x7_2).toNat * 5)).off + 4, none⟩ = some (.bool ((rd_T26 t511 x7_2).f4)) ∧ w'.cell? (ad516.add ((x7_2).toNat * 5)) = some (.int .i64 ((rd_T26 t511 x7_2).f0)) ∧ w'.cell? ⟨(ad516.add ((x7_2).toNat * 5)).block, (ad516.add ((x7_2).toNat * 5)).off + 1, none⟩ = some (.string ((rd_T26 t511 x7_2).f1)) ∧ w'.cell? ⟨(ad516.add ((x7_2).toNat * 5)).block, (ad516.add ((x7_2).toNat * 5)).off + 2, none⟩ = some (.int .i64 ((rd_T26 t511 x7_2).f2)) ∧ w'.cell? ⟨(ad516.add ((x7_2).toNat * 5)).block, (ad516.add ((x7_2).toNat * 5)).off + 3, none⟩ = some (.int .i64 ((rd_T26 t511 x7_2).f3)) ∧ w'.cell? ⟨(ad516.add ((x7_2).toNat * 5)).block, (ad516.add ((x7_2).toNat * 5)).off + 4, none⟩ = some (.bool ((rd_T26 t511 x7_2).f4)) ∧ w'.cell? (ad516.add ((x7_2).toNat * 5)) = some (.int .i64 ((rd_T26 t511 x7_2).f0)) ∧ w'.cell? ⟨(ad516.add ((x7_2).toNat * 5)).block, (ad516.add ((x7_2).toNat * 5)).off + 1, none⟩ = some (.string ((rd_T26 t511 x7_2).f1)) ∧ w'.cell? ⟨(ad516.add ((x7_2).toNat * 5)).block, (ad516.add ((x7_2).toNat * 5)).off + 2, none⟩ = some (.int .i64 ((rd_T26 t511 x7_2).f2)) ∧ w'.cell? ⟨(ad516.add ((x7_2).toNat * 5)).block, (ad516.add ((x7_2).toNat * 5)).off + 3, none⟩ = some (.int .i64 ((rd_T26 t511 x7_2).f3)) ∧ w'.cell? ⟨(ad516.add ((x7_2).toNat * 5)).block, (ad516.add ((x7_2).toNat * 5)).off + 4, none⟩ = some (.bool ((rd_T26 t511 x7_2).f4)) ∧ w'.cell? (ad516.add ((x7_2).toNat * 5)) = some (.int .i64 ((rd_T26 t511 x7_2).f0)) ∧ w'.cell? ⟨(ad516.add ((x7_2).toNat * 5)).block, (ad516.add ((x7_2).toNat * 5)).off + 1, none⟩ = some (.string ((rd_T26 t511 x7_2).f1)) ∧ w'.cell? ⟨(ad516.add ((x7_2).toNat * 5)).block, (ad516.add ((x7_2).toNat * 5)).off + 2, none⟩ = some (.int .i64 ((rd_T26 t511 x7_2).f2)) ∧ w'.cell? ⟨(ad516.add ((x7_2).toNat * 5)).block, (ad516.add ((x7_2).toNat * 5)).off + 3, none⟩ = some (.int .i64 ((rd_T26 t511 x7_2).f3)) ∧ w'.cell? ⟨(ad516.add ((x7_2).toNat * 5)).block, (ad516.add ((x7_2).toNat * 5)).off + 4, none⟩ = some (.bool ((rd_T26 t511 x7_2).f4))) (ds := []) (bA 62 0) (by kernel_rfl) rfl rfl ⟨hx516_0, hx516_1, hx516_2, hx516_3, hx516_4, hx517_0, hx517_1, hx517_2, hx517_3, hx517_4, hx518_0, hx518_1, hx518_2, hx518_3, hx518_4, hx519_0, hx519_1, hx519_2, hx519_3, hx519_4⟩ (fun hHeld => ?_); refine with_tabW regletlaw02_ScanCovers.tab9 regletlaw02_ScanCovers.bits9 (fun HT_ HW_ => ?_)
                        generalize wr.drew = w20 at HO_4 HB hx516_0 hx516_1 hx516_2 hx516_3 hx516_4 hx517_0 hx517_1 hx517_2 hx517_3 hx517_4 hx518_0 hx518_1 hx518_2 hx518_3 hx518_4 hx519_0 hx519_1 hx519_2 hx519_3 hx519_4 hHeld ⊢
                        refine pure_ (i := 0) (N := some 32) (v := ?_) (a' := ?_) (bA 62 1) rfl rfl (any_of HT_.out (by kernel_rfl)) (fun _ _ _ h => h) (Or.inl ⟨by rfl, ?_⟩) ?_ ?_; rotate_left; (intro w'; go_simp; with_reducible rfl); rotate_left; (simp only [Act.put, setIfInBounds_toArray, set_cons_zero, set_cons_succ, i64_w, i32_w]; rfl)
                        refine pure_ (i := 1) (N := some 33) (v := ?_) (a' := ?_) (bA 62 3) rfl rfl (any_of HT_.out (by kernel_rfl)) (fun _ _ _ h => h) (Or.inl ⟨by rfl, ?_⟩) ?_ ?_; rotate_left; (intro w'; go_simp; with_reducible rfl); rotate_left; (simp only [Act.put, setIfInBounds_toArray, set_cons_zero, set_cons_succ, i64_w, i32_w]; rfl)
                        refine pure_ (i := 2) (N := some 34) (v := ?_) (a' := ?_) (bA 62 7) rfl rfl (any_of HT_.out (by kernel_rfl)) (fun _ _ _ h => h) (Or.inl ⟨by rfl, ?_⟩) ?_ ?_; rotate_left; (intro w'; go_simp; with_reducible rfl); rotate_left; (simp only [Act.put, setIfInBounds_toArray, set_cons_zero, set_cons_succ, i64_w, i32_w]; rfl)
                        refine pure_ (i := 3) (N := some 35) (v := ?_) (a' := ?_) (bA 62 15) rfl rfl (any_of HT_.out (by kernel_rfl)) (fun _ _ _ h => h) (Or.inl ⟨by rfl, ?_⟩) ?_ ?_; rotate_left; (intro w'; go_simp; with_reducible rfl); rotate_left; (simp only [Act.put, setIfInBounds_toArray, set_cons_zero, set_cons_succ, i64_w, i32_w]; rfl)
                        refine pure_ (i := 5) (N := some 37) (v := ?_) (a' := ?_) (bA 62 47) rfl rfl (any_of HT_.out (by kernel_rfl)) (fun _ _ _ h => h) (Or.inl ⟨by rfl, ?_⟩) ?_ ?_; rotate_left; (intro w'; go_simp; with_reducible rfl); rotate_left; (simp only [Act.put, setIfInBounds_toArray, set_cons_zero, set_cons_succ, i64_w, i32_w]; rfl)
                        refine take_ (i := 4) (N := some 36) (v := ?_) (a' := ?_) (bA 62 63) rfl rfl (take_ofW HT_.out HW_.out (by kernel_rfl)) (fun _ _ _ h => h) (Or.inl ⟨by rfl, ?_⟩) hHeld ?_ ?_; rotate_left; (rintro w' ⟨s0, s1, s2, s3, s4, s5, s6, s7, s8, s9, s10, s11, s12, s13, s14, s15, s16, s17, s18, s19⟩; go_simp; with_reducible rfl); rotate_left; (simp only [Act.put, setIfInBounds_toArray, set_cons_zero, set_cons_succ, i64_w, i32_w]; rfl)
                        refine pure_ (i := 6) (N := some 38) (v := ?_) (a' := ?_) (bA 62 127) rfl rfl (any_of HT_.out (by kernel_rfl)) (fun _ _ _ h => h) (Or.inl ⟨by rfl, ?_⟩) ?_ ?_; rotate_left; (intro w'; go_simp; with_reducible rfl); rotate_left; (simp only [Act.put, setIfInBounds_toArray, set_cons_zero, set_cons_succ, i64_w, i32_w]; rfl)
                        refine pure_ (i := 7) (N := some 39) (v := ?_) (a' := ?_) (bA 62 255) rfl rfl (any_of HT_.out (by kernel_rfl)) (fun _ _ _ h => h) (Or.inl ⟨by rfl, ?_⟩) ?_ ?_; rotate_left; (intro w'; go_simp; with_reducible rfl); rotate_left; (simp only [Act.put, setIfInBounds_toArray, set_cons_zero, set_cons_succ, i64_w, i32_w]; rfl)
                        refine pure_ (i := 8) (N := some 40) (v := ?_) (a' := ?_) (bA 62 511) rfl rfl (any_of HT_.out (by kernel_rfl)) (fun _ _ _ h => h) (Or.inl ⟨by rfl, ?_⟩) ?_ ?_; rotate_left; (intro w'; go_simp; with_reducible rfl); rotate_left; (simp only [Act.put, setIfInBounds_toArray, set_cons_zero, set_cons_succ, i64_w, i32_w]; rfl)
                        refine pure_ (i := 9) (N := some 41) (v := ?_) (a' := ?_) (bA 62 1023) rfl rfl (any_of HT_.out (by kernel_rfl)) (fun _ _ _ h => h) (Or.inl ⟨by rfl, ?_⟩) ?_ ?_; rotate_left; (intro w'; go_simp; with_reducible rfl); rotate_left; (simp only [Act.put, setIfInBounds_toArray, set_cons_zero, set_cons_succ, i64_w, i32_w]; rfl)
                        refine pure_ (i := 10) (N := some 42) (v := ?_) (a' := ?_) (bA 62 2047) rfl rfl (any_of HT_.out (by kernel_rfl)) (fun _ _ _ h => h) (Or.inl ⟨by rfl, ?_⟩) ?_ ?_; rotate_left; (intro w'; go_simp; with_reducible rfl); rotate_left; (simp only [Act.put, setIfInBounds_toArray, set_cons_zero, set_cons_succ, i64_w, i32_w]; rfl)
                        refine pure_ (i := 11) (N := some 43) (v := ?_) (a' := ?_) (bA 62 4095) rfl rfl (any_of HT_.out (by kernel_rfl)) (fun _ _ _ h => h) (Or.inl ⟨by rfl, ?_⟩) ?_ ?_; rotate_left; (intro w'; go_simp; with_reducible rfl); rotate_left; (simp only [Act.put, setIfInBounds_toArray, set_cons_zero, set_cons_succ, i64_w, i32_w]; rfl)
                        refine pure_ (i := 13) (N := some 45) (v := ?_) (a' := ?_) (bA 62 12287) rfl rfl (any_of HT_.out (by kernel_rfl)) (fun _ _ _ h => h) (Or.inl ⟨by rfl, ?_⟩) ?_ ?_; rotate_left; (intro w'; go_simp; with_reducible rfl); rotate_left; (simp only [Act.put, setIfInBounds_toArray, set_cons_zero, set_cons_succ, i64_w, i32_w]; rfl)
                        refine pure_ (i := 14) (N := some 46) (v := ?_) (a' := ?_) (bA 62 28671) rfl rfl (any_of HT_.out (by kernel_rfl)) (fun _ _ _ h => h) (Or.inl ⟨by rfl, ?_⟩) ?_ ?_; rotate_left; (intro w'; go_simp; with_reducible rfl); rotate_left; (simp only [Act.put, setIfInBounds_toArray, set_cons_zero, set_cons_succ, i64_w, i32_w]; rfl)
                        refine pure_ (i := 15) (N := some 47) (v := ?_) (a' := ?_) (bA 62 61439) rfl rfl (any_of HT_.out (by kernel_rfl)) (fun _ _ _ h => h) (Or.inl ⟨by rfl, ?_⟩) ?_ ?_; rotate_left; (intro w'; go_simp; with_reducible rfl); rotate_left; (simp only [Act.put, setIfInBounds_toArray, set_cons_zero, set_cons_succ, i64_w, i32_w]; rfl)
                        refine pure_ (i := 16) (N := some 48) (v := ?_) (a' := ?_) (bA 62 126975) rfl rfl (any_of HT_.out (by kernel_rfl)) (fun _ _ _ h => h) (Or.inl ⟨by rfl, ?_⟩) ?_ ?_; rotate_left; (intro w'; go_simp; with_reducible rfl); rotate_left; (simp only [Act.put, setIfInBounds_toArray, set_cons_zero, set_cons_succ, i64_w, i32_w]; rfl)
                        refine take_ (i := 12) (N := some 44) (v := ?_) (a' := ?_) (bA 62 131071) rfl rfl (take_ofW HT_.out HW_.out (by kernel_rfl)) (fun _ _ _ h => h) (Or.inl ⟨by rfl, ?_⟩) hHeld ?_ ?_; rotate_left; (rintro w' ⟨s0, s1, s2, s3, s4, s5, s6, s7, s8, s9, s10, s11, s12, s13, s14, s15, s16, s17, s18, s19⟩; go_simp; with_reducible rfl); rotate_left; (simp only [Act.put, setIfInBounds_toArray, set_cons_zero, set_cons_succ, i64_w, i32_w]; rfl)
                        refine take_ (i := 17) (N := some 49) (v := ?_) (a' := ?_) (bA 62 262143) rfl rfl (take_ofW HT_.out HW_.out (by kernel_rfl)) (fun _ _ _ h => h) (Or.inl ⟨by rfl, ?_⟩) hHeld ?_ ?_; rotate_left; (rintro w' ⟨s0, s1, s2, s3, s4, s5, s6, s7, s8, s9, s10, s11, s12, s13, s14, s15, s16, s17, s18, s19⟩; go_simp; with_reducible rfl); rotate_left; (simp only [Act.put, setIfInBounds_toArray, set_cons_zero, set_cons_succ, i64_w, i32_w]; rfl)
                        refine pure_ (i := 18) (N := some 50) (v := ?_) (a' := ?_) (bA 62 524287) rfl rfl (any_of HT_.out (by kernel_rfl)) (fun _ _ _ h => h) (Or.inl ⟨by rfl, ?_⟩) ?_ ?_; rotate_left; (intro w'; go_simp; with_reducible rfl); rotate_left; (simp only [Act.put, setIfInBounds_toArray, set_cons_zero, set_cons_succ, i64_w, i32_w]; rfl)
                        refine pure_ (i := 19) (N := some 51) (v := ?_) (a' := ?_) (bA 62 1048575) rfl rfl (any_of HT_.out (by kernel_rfl)) (fun _ _ _ h => h) (Or.inl ⟨by rfl, ?_⟩) ?_ ?_; rotate_left; (intro w'; go_simp; with_reducible rfl); rotate_left; (simp only [Act.put, setIfInBounds_toArray, set_cons_zero, set_cons_succ, i64_w, i32_w]; rfl)
                        refine pure_ (i := 20) (N := some 52) (v := ?_) (a' := ?_) (bA 62 2097151) rfl rfl (any_of HT_.out (by kernel_rfl)) (fun _ _ _ h => h) (Or.inl ⟨by rfl, ?_⟩) ?_ ?_; rotate_left; (intro w'; go_simp; with_reducible rfl); rotate_left; (simp only [Act.put, setIfInBounds_toArray, set_cons_zero, set_cons_succ, i64_w, i32_w]; rfl)
                        refine pure_ (i := 21) (N := some 53) (v := ?_) (a' := ?_) (bA 62 4194303) rfl rfl (any_of HT_.out (by kernel_rfl)) (fun _ _ _ h => h) (Or.inl ⟨by rfl, ?_⟩) ?_ ?_; rotate_left; (intro w'; go_simp; with_reducible rfl); rotate_left; (simp only [Act.put, setIfInBounds_toArray, set_cons_zero, set_cons_succ, i64_w, i32_w]; rfl)
                        refine pure_ (i := 22) (N := some 54) (v := ?_) (a' := ?_) (bA 62 8388607) rfl rfl (any_of HT_.out (by kernel_rfl)) (fun _ _ _ h => h) (Or.inl ⟨by rfl, ?_⟩) ?_ ?_; rotate_left; (intro w'; go_simp; with_reducible rfl); rotate_left; (simp only [Act.put, setIfInBounds_toArray, set_cons_zero, set_cons_succ, i64_w, i32_w]; rfl)
                        refine pure_ (i := 23) (N := some 55) (v := ?_) (a' := ?_) (bA 62 16777215) rfl rfl (any_of HT_.out (by kernel_rfl)) (fun _ _ _ h => h) (Or.inl ⟨by rfl, ?_⟩) ?_ ?_; rotate_left; (intro w'; go_simp; with_reducible rfl); rotate_left; (simp only [Act.put, setIfInBounds_toArray, set_cons_zero, set_cons_succ, i64_w, i32_w]; rfl)
                        refine pure_ (i := 24) (N := some 56) (v := ?_) (a' := ?_) (bA 62 33554431) rfl rfl (any_of HT_.out (by kernel_rfl)) (fun _ _ _ h => h) (Or.inl ⟨by rfl, ?_⟩) ?_ ?_; rotate_left; (intro w'; go_simp; with_reducible rfl); rotate_left; (simp only [Act.put, setIfInBounds_toArray, set_cons_zero, set_cons_succ, i64_w, i32_w]; rfl)
                        refine pure_ (i := 26) (N := some 58) (v := ?_) (a' := ?_) (bA 62 100663295) rfl rfl (any_of HT_.out (by kernel_rfl)) (fun _ _ _ h => h) (Or.inl ⟨by rfl, ?_⟩) ?_ ?_; rotate_left; (intro w'; go_simp; with_reducible rfl); rotate_left; (simp only [Act.put, setIfInBounds_toArray, set_cons_zero, set_cons_succ, i64_w, i32_w]; rfl)
                        refine pure_ (i := 27) (N := some 59) (v := ?_) (a' := ?_) (bA 62 234881023) rfl rfl (any_of HT_.out (by kernel_rfl)) (fun _ _ _ h => h) (Or.inl ⟨by rfl, ?_⟩) ?_ ?_; rotate_left; (intro w'; go_simp; with_reducible rfl); rotate_left; (simp only [Act.put, setIfInBounds_toArray, set_cons_zero, set_cons_succ, i64_w, i32_w]; rfl)
                        refine take_ (i := 25) (N := some 57) (v := ?_) (a' := ?_) (bA 62 268435455) rfl rfl (take_ofW HT_.out HW_.out (by kernel_rfl)) (fun _ _ _ h => h) (Or.inl ⟨by rfl, ?_⟩) hHeld ?_ ?_; rotate_left; (rintro w' ⟨s0, s1, s2, s3, s4, s5, s6, s7, s8, s9, s10, s11, s12, s13, s14, s15, s16, s17, s18, s19⟩; go_simp; with_reducible rfl); rotate_left; (simp only [Act.put, setIfInBounds_toArray, set_cons_zero, set_cons_succ, i64_w, i32_w]; rfl)
                        refine pure_ (i := 28) (N := some 60) (v := ?_) (a' := ?_) (bA 62 536870911) rfl rfl (any_of HT_.out (by kernel_rfl)) (fun _ _ _ h => h) (Or.inl ⟨by rfl, ?_⟩) ?_ ?_; rotate_left; (intro w'; go_simp; with_reducible rfl); rotate_left; (simp only [Act.put, setIfInBounds_toArray, set_cons_zero, set_cons_succ, i64_w, i32_w]; rfl)
                        refine pure_ (i := 29) (N := some 61) (v := ?_) (a' := ?_) (bA 62 1073741823) rfl rfl (any_of HT_.out (by kernel_rfl)) (fun _ _ _ h => h) (Or.inl ⟨by rfl, ?_⟩) ?_ ?_; rotate_left; (intro w'; go_simp; with_reducible rfl); rotate_left; (simp only [Act.put, setIfInBounds_toArray, set_cons_zero, set_cons_succ, i64_w, i32_w]; rfl)
                        refine pure_ (i := 30) (N := some 62) (v := ?_) (a' := ?_) (bA 62 2147483647) rfl rfl (any_of HT_.out (by kernel_rfl)) (fun _ _ _ h => h) (Or.inl ⟨by rfl, ?_⟩) ?_ ?_; rotate_left; (intro w'; go_simp; with_reducible rfl); rotate_left; (simp only [Act.put, setIfInBounds_toArray, set_cons_zero, set_cons_succ, i64_w, i32_w]; rfl)
                        refine pure_ (i := 31) (N := some 63) (v := undef) (a' := ?_) (bA 62 4294967295) rfl rfl (any_of HT_.out (by kernel_rfl)) (fun _ _ _ h => h) (Or.inr ⟨by rfl, rfl⟩) ?_ ?_; rotate_left; (simp only [Act.put, setIfInBounds_toArray, set_cons_zero, set_cons_succ, i64_w, i32_w]; rfl)
                        refine pure_ (i := 32) (N := some 64) (v := undef) (a' := ?_) (bA 62 8589934591) rfl rfl (any_of HT_.out (by kernel_rfl)) (fun _ _ _ h => h) (Or.inr ⟨by rfl, rfl⟩) ?_ ?_; rotate_left; (simp only [Act.put, setIfInBounds_toArray, set_cons_zero, set_cons_succ, i64_w, i32_w]; rfl)
                        refine pure_ (i := 33) (N := some 65) (v := undef) (a' := ?_) (bA 62 17179869183) rfl rfl (any_of HT_.out (by kernel_rfl)) (fun _ _ _ h => h) (Or.inr ⟨by rfl, rfl⟩) ?_ ?_; rotate_left; (simp only [Act.put, setIfInBounds_toArray, set_cons_zero, set_cons_succ, i64_w, i32_w]; rfl)
                        refine pure_ (i := 34) (N := some 66) (v := undef) (a' := ?_) (bA 62 34359738367) rfl rfl (any_of HT_.out (by kernel_rfl)) (fun _ _ _ h => h) (Or.inr ⟨by rfl, rfl⟩) ?_ ?_; rotate_left; (simp only [Act.put, setIfInBounds_toArray, set_cons_zero, set_cons_succ, i64_w, i32_w]; rfl)
                        refine pure_ (i := 35) (N := some 67) (v := undef) (a' := ?_) (bA 62 68719476735) rfl rfl (any_of HT_.out (by kernel_rfl)) (fun _ _ _ h => h) (Or.inr ⟨by rfl, rfl⟩) ?_ ?_; rotate_left; (simp only [Act.put, setIfInBounds_toArray, set_cons_zero, set_cons_succ, i64_w, i32_w]; rfl)
                        refine pure_ (i := 36) (N := some 68) (v := undef) (a' := ?_) (bA 62 137438953471) rfl rfl (any_of HT_.out (by kernel_rfl)) (fun _ _ _ h => h) (Or.inr ⟨by rfl, rfl⟩) ?_ ?_; rotate_left; (simp only [Act.put, setIfInBounds_toArray, set_cons_zero, set_cons_succ, i64_w, i32_w]; rfl)
                        refine pure_ (i := 37) (N := some 69) (v := undef) (a' := ?_) (bA 62 274877906943) rfl rfl (any_of HT_.out (by kernel_rfl)) (fun _ _ _ h => h) (Or.inr ⟨by rfl, rfl⟩) ?_ ?_; rotate_left; (simp only [Act.put, setIfInBounds_toArray, set_cons_zero, set_cons_succ, i64_w, i32_w]; rfl)
                        refine pure_ (i := 38) (N := some 70) (v := undef) (a' := ?_) (bA 62 549755813887) rfl rfl (any_of HT_.out (by kernel_rfl)) (fun _ _ _ h => h) (Or.inr ⟨by rfl, rfl⟩) ?_ ?_; rotate_left; (simp only [Act.put, setIfInBounds_toArray, set_cons_zero, set_cons_succ, i64_w, i32_w]; rfl)
                        refine pure_ (i := 39) (N := some 71) (v := undef) (a' := ?_) (bA 62 1099511627775) rfl rfl (any_of HT_.out (by kernel_rfl)) (fun _ _ _ h => h) (Or.inr ⟨by rfl, rfl⟩) ?_ ?_; rotate_left; (simp only [Act.put, setIfInBounds_toArray, set_cons_zero, set_cons_succ, i64_w, i32_w]; rfl)
                        refine pure_ (i := 40) (N := some 72) (v := undef) (a' := ?_) (bA 62 2199023255551) rfl rfl (any_of HT_.out (by kernel_rfl)) (fun _ _ _ h => h) (Or.inr ⟨by rfl, rfl⟩) ?_ ?_; rotate_left; (simp only [Act.put, setIfInBounds_toArray, set_cons_zero, set_cons_succ, i64_w, i32_w]; rfl)
                        refine pure_ (i := 41) (N := some 73) (v := ?_) (a' := ?_) (bA 62 4398046511103) rfl rfl (any_of HT_.out (by kernel_rfl)) (fun _ _ _ h => h) (Or.inl ⟨by rfl, ?_⟩) ?_ ?_; rotate_left; (intro w'; go_simp; with_reducible rfl); rotate_left; (simp only [Act.put, setIfInBounds_toArray, set_cons_zero, set_cons_succ, i64_w, i32_w]; rfl)
                        refine pure_ (i := 42) (N := some 74) (v := ?_) (a' := ?_) (bA 62 8796093022207) rfl rfl (any_of HT_.out (by kernel_rfl)) (fun _ _ _ h => h) (Or.inl ⟨by rfl, ?_⟩) ?_ ?_; rotate_left; (intro w'; go_simp; with_reducible rfl); rotate_left; (simp only [Act.put, setIfInBounds_toArray, set_cons_zero, set_cons_succ, i64_w, i32_w]; rfl)
                        refine pure_ (i := 43) (N := some 75) (v := undef) (a' := ?_) (bA 62 17592186044415) rfl rfl (any_of HT_.out (by kernel_rfl)) (fun _ _ _ h => h) (Or.inr ⟨by rfl, rfl⟩) ?_ ?_; rotate_left; (simp only [Act.put, setIfInBounds_toArray, set_cons_zero, set_cons_succ, i64_w, i32_w]; rfl)
                        refine pure_ (i := 44) (N := some 76) (v := undef) (a' := ?_) (bA 62 35184372088831) rfl rfl (any_of HT_.out (by kernel_rfl)) (fun _ _ _ h => h) (Or.inr ⟨by rfl, rfl⟩) ?_ ?_; rotate_left; (simp only [Act.put, setIfInBounds_toArray, set_cons_zero, set_cons_succ, i64_w, i32_w]; rfl)
                        refine pure_ (i := 45) (N := some 77) (v := undef) (a' := ?_) (bA 62 70368744177663) rfl rfl (any_of HT_.out (by kernel_rfl)) (fun _ _ _ h => h) (Or.inr ⟨by rfl, rfl⟩) ?_ ?_; rotate_left; (simp only [Act.put, setIfInBounds_toArray, set_cons_zero, set_cons_succ, i64_w, i32_w]; rfl)
                        refine pure_ (i := 46) (N := some 78) (v := undef) (a' := ?_) (bA 62 140737488355327) rfl rfl (any_of HT_.out (by kernel_rfl)) (fun _ _ _ h => h) (Or.inr ⟨by rfl, rfl⟩) ?_ ?_; rotate_left; (simp only [Act.put, setIfInBounds_toArray, set_cons_zero, set_cons_succ, i64_w, i32_w]; rfl)
                        refine pure_ (i := 47) (N := some 79) (v := undef) (a' := ?_) (bA 62 281474976710655) rfl rfl (any_of HT_.out (by kernel_rfl)) (fun _ _ _ h => h) (Or.inr ⟨by rfl, rfl⟩) ?_ ?_; rotate_left; (simp only [Act.put, setIfInBounds_toArray, set_cons_zero, set_cons_succ, i64_w, i32_w]; rfl)
                        refine pure_ (i := 48) (N := some 80) (v := undef) (a' := ?_) (bA 62 562949953421311) rfl rfl (any_of HT_.out (by kernel_rfl)) (fun _ _ _ h => h) (Or.inr ⟨by rfl, rfl⟩) ?_ ?_; rotate_left; (simp only [Act.put, setIfInBounds_toArray, set_cons_zero, set_cons_succ, i64_w, i32_w]; rfl)
                        refine pure_ (i := 49) (N := some 81) (v := undef) (a' := ?_) (bA 62 1125899906842623) rfl rfl (any_of HT_.out (by kernel_rfl)) (fun _ _ _ h => h) (Or.inr ⟨by rfl, rfl⟩) ?_ ?_; rotate_left; (simp only [Act.put, setIfInBounds_toArray, set_cons_zero, set_cons_succ, i64_w, i32_w]; rfl)
                        refine pure_ (i := 50) (N := some 82) (v := undef) (a' := ?_) (bA 62 2251799813685247) rfl rfl (any_of HT_.out (by kernel_rfl)) (fun _ _ _ h => h) (Or.inr ⟨by rfl, rfl⟩) ?_ ?_; rotate_left; (simp only [Act.put, setIfInBounds_toArray, set_cons_zero, set_cons_succ, i64_w, i32_w]; rfl)
                        refine pure_ (i := 51) (N := some 83) (v := undef) (a' := ?_) (bA 62 4503599627370495) rfl rfl (any_of HT_.out (by kernel_rfl)) (fun _ _ _ h => h) (Or.inr ⟨by rfl, rfl⟩) ?_ ?_; rotate_left; (simp only [Act.put, setIfInBounds_toArray, set_cons_zero, set_cons_succ, i64_w, i32_w]; rfl)
                        refine pure_ (i := 52) (N := some 84) (v := undef) (a' := ?_) (bA 62 9007199254740991) rfl rfl (any_of HT_.out (by kernel_rfl)) (fun _ _ _ h => h) (Or.inr ⟨by rfl, rfl⟩) ?_ ?_; rotate_left; (simp only [Act.put, setIfInBounds_toArray, set_cons_zero, set_cons_succ, i64_w, i32_w]; rfl)
                        refine pure_ (i := 53) (N := some 85) (v := undef) (a' := ?_) (bA 62 18014398509481983) rfl rfl (any_of HT_.out (by kernel_rfl)) (fun _ _ _ h => h) (Or.inr ⟨by rfl, rfl⟩) ?_ ?_; rotate_left; (simp only [Act.put, setIfInBounds_toArray, set_cons_zero, set_cons_succ, i64_w, i32_w]; rfl)
                        refine pure_ (i := 54) (N := some 86) (v := undef) (a' := ?_) (bA 62 36028797018963967) rfl rfl (any_of HT_.out (by kernel_rfl)) (fun _ _ _ h => h) (Or.inr ⟨by rfl, rfl⟩) ?_ ?_; rotate_left; (simp only [Act.put, setIfInBounds_toArray, set_cons_zero, set_cons_succ, i64_w, i32_w]; rfl)
                        refine pure_ (i := 55) (N := some 87) (v := undef) (a' := ?_) (bA 62 72057594037927935) rfl rfl (any_of HT_.out (by kernel_rfl)) (fun _ _ _ h => h) (Or.inr ⟨by rfl, rfl⟩) ?_ ?_; rotate_left; (simp only [Act.put, setIfInBounds_toArray, set_cons_zero, set_cons_succ, i64_w, i32_w]; rfl)
                        refine pure_ (i := 56) (N := some 88) (v := undef) (a' := ?_) (bA 62 144115188075855871) rfl rfl (any_of HT_.out (by kernel_rfl)) (fun _ _ _ h => h) (Or.inr ⟨by rfl, rfl⟩) ?_ ?_; rotate_left; (simp only [Act.put, setIfInBounds_toArray, set_cons_zero, set_cons_succ, i64_w, i32_w]; rfl)
                        refine pure_ (i := 57) (N := some 89) (v := undef) (a' := ?_) (bA 62 288230376151711743) rfl rfl (any_of HT_.out (by kernel_rfl)) (fun _ _ _ h => h) (Or.inr ⟨by rfl, rfl⟩) ?_ ?_; rotate_left; (simp only [Act.put, setIfInBounds_toArray, set_cons_zero, set_cons_succ, i64_w, i32_w]; rfl)
                        refine pure_ (i := 58) (N := some 90) (v := undef) (a' := ?_) (bA 62 576460752303423487) rfl rfl (any_of HT_.out (by kernel_rfl)) (fun _ _ _ h => h) (Or.inr ⟨by rfl, rfl⟩) ?_ ?_; rotate_left; (simp only [Act.put, setIfInBounds_toArray, set_cons_zero, set_cons_succ, i64_w, i32_w]; rfl)
                        refine pure_ (i := 59) (N := some 91) (v := undef) (a' := ?_) (bA 62 1152921504606846975) rfl rfl (any_of HT_.out (by kernel_rfl)) (fun _ _ _ h => h) (Or.inr ⟨by rfl, rfl⟩) ?_ ?_; rotate_left; (simp only [Act.put, setIfInBounds_toArray, set_cons_zero, set_cons_succ, i64_w, i32_w]; rfl)
                        refine pure_ (i := 60) (N := some 92) (v := undef) (a' := ?_) (bA 62 2305843009213693951) rfl rfl (any_of HT_.out (by kernel_rfl)) (fun _ _ _ h => h) (Or.inr ⟨by rfl, rfl⟩) ?_ ?_; rotate_left; (simp only [Act.put, setIfInBounds_toArray, set_cons_zero, set_cons_succ, i64_w, i32_w]; rfl)
                        refine pure_ (i := 61) (N := some 93) (v := ?_) (a' := ?_) (bA 62 4611686018427387903) rfl rfl (any_of HT_.out (by kernel_rfl)) (fun _ _ _ h => h) (Or.inl ⟨by rfl, ?_⟩) ?_ ?_; rotate_left; (intro w'; go_simp; with_reducible rfl); rotate_left; (simp only [Act.put, setIfInBounds_toArray, set_cons_zero, set_cons_succ, i64_w, i32_w]; rfl)
                        refine done_ (done_of HT_.out (by kernel_rfl)) ?_
                        try go_wp2
                        go_meet
                        case rel => exact ⟨_, (true), (by first | rfl | (simp; done) | (simp [*]; done)), H', ⟨by have := HJ3.out; have := HK2.out; first | omega | exact Nat.le_refl _⟩, ⟨by (with_reducible repeat (first | apply Kd.R_alloc | apply Kd.R_drewN | apply Kd.R_drew)); exact HO_4.out⟩, ⟨by repeat (first | (with_reducible first | exact HB.out | apply below_alloc | apply pw_below_drewN | apply below_drew1) | exact HB.out)⟩⟩
                      · rw [if_neg c19] at H
                        have c19b0 : decide ((a0.size : Int) < ((rd_T26 t511 x7_2).f3)) = false := decide_eq_false c19
                        clear c19
                        by_cases c21 : 0 ≤ x6_2
                        · rw [if_pos c21] at H
                          have c21b0 := eq_true c21
                          have c21b1 : decide (0 ≤ x6_2) = true := decide_eq_true c21
                          clear c21
                          by_cases c22 : x6_2 ≤ ((rd_T26 t511 x7_2).f2)
                          · rw [if_pos c22] at H
                            have c22b0 := eq_true c22
                            have c22b1 : decide (x6_2 ≤ ((rd_T26 t511 x7_2).f2)) = true := decide_eq_true c22
                            clear c22
                            by_cases c23 : ((rd_T26 t511 x7_2).f2) ≤ (a0.size : Int)
                            · rw [if_pos c23] at H
                              have c23b0 := eq_true c23
                              have c23b1 : decide (((rd_T26 t511 x7_2).f2) ≤ (a0.size : Int)) = true := decide_eq_true c23
                              clear c23
                              replace H := Option.bind_eq_some_iff.mp H
                              obtain ⟨t521, A240, H⟩ := H
                              replace H : (if t521 = true then (regletlaw02_ScanCovers.j2 k2 a0 t510 t511 x7_2 (decide ((wrap64 (((rd_T26 t511 x7_2).f3) - ((rd_T26 t511 x7_2).f2))) < (((rd_T26 t511 x7_2).f1).size : Int)))) else (regletlaw02_ScanCovers.j2 k2 a0 t510 t511 x7_2 true)) = some r := H
                              have A24 := Aside0.mk A240
                              clear A240
                              by_cases c25 : t521 = true
                              · subst c25
                                have H1 : (regletlaw02_ScanCovers.j2 k2 a0 t510 t511 x7_2 (decide ((wrap64 (((rd_T26 t511 x7_2).f3) - ((rd_T26 t511 x7_2).f2))) < (((rd_T26 t511 x7_2).f1).size : Int)))) = some r := by rw [if_pos rfl] at H; exact H
                                clear H
                                have H := H1
                                clear H1
                                have H' := Aside0.mk H
                                clear H
                                try go_wp2
                                have n0_ := Aside0.mk (Kd.R_drew HO_4.out)
                                have n1_ := Aside0.mk (below_drew1 HB.out)
                                clear HO_4
                                clear HB
                                have HO_4 := n0_
                                have HB := n1_
                                clear n0_ n1_
                                have p516 : 0 ≤ (x7_2 : Int) := of_decide_eq_true (by first | (with_reducible assumption) | assumption)
                                have q516 : x7_2 < (t511.length : Int) := of_decide_eq_true (by first | (with_reducible assumption) | assumption)
                                obtain ⟨ad516, e516, hx516_0, hx516_1, hx516_2, hx516_3, hx516_4⟩ := at_T26 (Kd.R_reads' HO_4.out).2.2 x7_2 p516 q516
                                cases e516
                                replace p516 := eq_true p516
                                replace q516 := eq_true q516
                                have p517 : 0 ≤ (x7_2 : Int) := of_decide_eq_true (by first | (with_reducible assumption) | assumption)
                                have q517 : x7_2 < (t511.length : Int) := of_decide_eq_true (by first | (with_reducible assumption) | assumption)
                                obtain ⟨ad517, e517, hx517_0, hx517_1, hx517_2, hx517_3, hx517_4⟩ := at_T26 (Kd.R_reads' HO_4.out).2.2 x7_2 p517 q517
                                obtain rfl : ad516 = ad517 := (by injection e517)
                                replace p517 := eq_true p517
                                replace q517 := eq_true q517
                                have p518 : 0 ≤ (x7_2 : Int) := of_decide_eq_true (by first | (with_reducible assumption) | assumption)
                                have q518 : x7_2 < (t511.length : Int) := of_decide_eq_true (by first | (with_reducible assumption) | assumption)
                                obtain ⟨ad518, e518, hx518_0, hx518_1, hx518_2, hx518_3, hx518_4⟩ := at_T26 (Kd.R_reads' HO_4.out).2.2 x7_2 p518 q518
                                obtain rfl : ad516 = ad518 := (by injection e518)
                                replace p518 := eq_true p518
                                replace q518 := eq_true q518
                                have p519 : 0 ≤ (x7_2 : Int) := of_decide_eq_true (by first | (with_reducible assumption) | assumption)
                                have q519 : x7_2 < (t511.length : Int) := of_decide_eq_true (by first | (with_reducible assumption) | assumption)
                                obtain ⟨ad519, e519, hx519_0, hx519_1, hx519_2, hx519_3, hx519_4⟩ := at_T26 (Kd.R_reads' HO_4.out).2.2 x7_2 p519 q519
                                obtain rfl : ad516 = ad519 := (by injection e519)
                                replace p519 := eq_true p519
                                replace q519 := eq_true q519
                                have p520 : 0 ≤ (x7_2 : Int) := of_decide_eq_true (by first | (with_reducible assumption) | assumption)
                                have q520 : x7_2 < (t511.length : Int) := of_decide_eq_true (by first | (with_reducible assumption) | assumption)
                                obtain ⟨ad520, e520, hx520_0, hx520_1, hx520_2, hx520_3, hx520_4⟩ := at_T26 (Kd.R_reads' HO_4.out).2.2 x7_2 p520 q520
                                obtain rfl : ad516 = ad520 := (by injection e520)
                                replace p520 := eq_true p520
                                replace q520 := eq_true q520
                                have p522 : 0 ≤ (x7_2 : Int) := of_decide_eq_true (by first | (with_reducible assumption) | assumption)
                                have q522 : x7_2 < (t511.length : Int) := of_decide_eq_true (by first | (with_reducible assumption) | assumption)
                                obtain ⟨ad522, e522, hx522_0, hx522_1, hx522_2, hx522_3, hx522_4⟩ := at_T26 (Kd.R_reads' HO_4.out).2.2 x7_2 p522 q522
                                obtain rfl : ad516 = ad522 := (by injection e522)
                                replace p522 := eq_true p522
                                replace q522 := eq_true q522
                                have p523 : 0 ≤ (x7_2 : Int) := of_decide_eq_true (by first | (with_reducible assumption) | assumption)
                                have q523 : x7_2 < (t511.length : Int) := of_decide_eq_true (by first | (with_reducible assumption) | assumption)
                                obtain ⟨ad523, e523, hx523_0, hx523_1, hx523_2, hx523_3, hx523_4⟩ := at_T26 (Kd.R_reads' HO_4.out).2.2 x7_2 p523 q523
                                obtain rfl : ad516 = ad523 := (by injection e523)
                                replace p523 := eq_true p523
                                replace q523 := eq_true q523
                                have p524 : 0 ≤ (x7_2 : Int) := of_decide_eq_true (by first | (with_reducible assumption) | assumption)
                                have q524 : x7_2 < (t511.length : Int) := of_decide_eq_true (by first | (with_reducible assumption) | assumption)
                                obtain ⟨ad524, e524, hx524_0, hx524_1, hx524_2, hx524_3, hx524_4⟩ := at_T26 (Kd.R_reads' HO_4.out).2.2 x7_2 p524 q524
                                obtain rfl : ad516 = ad524 := (by injection e524)
                                replace p524 := eq_true p524
                                replace q524 := eq_true q524
                                refine start_ (n := 62) (S := fun w' => w'.cell? (ad516.add ((x7_2).toNat * 5)) = some (.int .i64 ((rd_T26 t511 x7_2).f0)) ∧ w'.cell? ⟨(ad516.add ((x7_2).toNat * 5)).block, (ad516.add ((x7_2).toNat * 5)).off + 1, none⟩ = some (.string ((rd_T26 t511 x7_2).f1)) ∧ w'.cell? ⟨(ad516.add ((x7_2).toNat * 5)).block, (ad516.add ((x7_2).toNat * 5)).off + 2, none⟩ = some (.int .i64 ((rd_T26 t511 x7_2).f2)) ∧ w'.cell? ⟨(ad516.add ((x7_2).toNat * 5)).block, (ad516.add ((x7_2).toNat * 5)).off + 3, none⟩ = some (.int .i64 ((rd_T26 t511 x7_2).f3)) ∧ w'.cell? ⟨(ad516.add ((x7_2).toNat * 5)).block, (ad516.add ((x7_2).toNat * 5)).off + 4, none⟩ = some (.bool ((rd_T26 t511 x7_2).f4)) ∧ w'.cell? (ad516.add ((x7_2).toNat * 5)) = some (.int .i64 ((rd_T26 t511 x7_2).f0)) ∧ w'.cell? ⟨(ad516.add ((x7_2).toNat * 5)).block, (ad516.add ((x7_2).toNat * 5)).off + 1, none⟩ = some (.string ((rd_T26 t511 x7_2).f1)) ∧ w'.cell? ⟨(ad516.add ((x7_2).toNat * 5)).block, (ad516.add ((x7_2).toNat * 5)).off + 2, none⟩ = some (.int .i64 ((rd_T26 t511 x7_2).f2)) ∧ w'.cell? ⟨(ad516.add ((x7_2).toNat * 5)).block, (ad516.add ((x7_2).toNat * 5)).off + 3, none⟩ = some (.int .i64 ((rd_T26 t511 x7_2).f3)) ∧ w'.cell? ⟨(ad516.add ((x7_2).toNat * 5)).block, (ad516.add ((x7_2).toNat * 5)).off + 4, none⟩ = some (.bool ((rd_T26 t511 x7_2).f4)) ∧ w'.cell? (ad516.add ((x7_2).toNat * 5)) = some (.int .i64 ((rd_T26 t511 x7_2).f0)) ∧ w'.cell? ⟨(ad516.add ((x7_2).toNat * 5)).block, (ad516.add ((x7_2).toNat * 5)).off + 1, none⟩ = some (.string ((rd_T26 t511 x7_2).f1)) ∧ w'.cell? ⟨(ad516.add ((x7_2).toNat * 5)).block, (ad516.add ((x7_2).toNat * 5)).off + 2, none⟩ = some (.int .i64 ((rd_T26 t511 x7_2).f2)) ∧ w'.cell? ⟨(ad516.add ((x7_2).toNat * 5)).block, (ad516.add ((x7_2).toNat * 5)).off + 3, none⟩ = some (.int .i64 ((rd_T26 t511 x7_2).f3)) ∧ w'.cell? ⟨(ad516.add ((x7_2).toNat * 5)).block, (ad516.add ((x7_2).toNat * 5)).off + 4, none⟩ = some (.bool ((rd_T26 t511 x7_2).f4)) ∧ w'.cell? (ad516.add ((x7_2).toNat * 5)) = some (.int .i64 ((rd_T26 t511 x7_2).f0)) ∧ w'.cell? ⟨(ad516.add ((x7_2).toNat * 5)).block, (ad516.add ((x7_2).toNat * 5)).off + 1, none⟩ = some (.string ((rd_T26 t511 x7_2).f1)) ∧ w'.cell? ⟨(ad516.add ((x7_2).toNat * 5)).block, (ad516.add ((x7_2).toNat * 5)).off + 2, none⟩ = some (.int .i64 ((rd_T26 t511 x7_2).f2)) ∧ w'.cell? ⟨(ad516.add ((x7_2).toNat * 5)).block, (ad516.add ((x7_2).toNat * 5)).off + 3, none⟩ = some (.int .i64 ((rd_T26 t511 x7_2).f3)) ∧ w'.cell? ⟨(ad516.add ((x7_2).toNat * 5)).block, (ad516.add ((x7_2).toNat * 5)).off + 4, none⟩ = some (.bool ((rd_T26 t511 x7_2).f4)) ∧ w'.cell? (ad516.add ((x7_2).toNat * 5)) = some (.int .i64 ((rd_T26 t511 x7_2).f0)) ∧ w'.cell? ⟨(ad516.add ((x7_2).toNat * 5)).block, (ad516.add ((x7_2).toNat * 5)).off + 1, none⟩ = some (.string ((rd_T26 t511 x7_2).f1)) ∧ w'.cell? ⟨(ad516.add ((x7_2).toNat * 5)).block, (ad516.add ((x7_2).toNat * 5)).off + 2, none⟩ = some (.int .i64 ((rd_T26 t511 x7_2).f2)) ∧ w'.cell? ⟨(ad516.add ((x7_2).toNat * 5)).block, (ad516.add ((x7_2).toNat * 5)).off + 3, none⟩ = some (.int .i64 ((rd_T26 t511 x7_2).f3)) ∧ w'.cell? ⟨(ad516.add ((x7_2).toNat * 5)).block, (ad516.add ((x7_2).toNat * 5)).off + 4, none⟩ = some (.bool ((rd_T26 t511 x7_2).f4)) ∧ w'.cell? (ad516.add ((x7_2).toNat * 5)) = some (.int .i64 ((rd_T26 t511 x7_2).f0)) ∧ w'.cell? ⟨(ad516.add ((x7_2).toNat * 5)).block, (ad516.add ((x7_2).toNat * 5)).off + 1, none⟩ = some (.string ((rd_T26 t511 x7_2).f1)) ∧ w'.cell? ⟨(ad516.add ((x7_2).toNat * 5)).block, (ad516.add ((x7_2).toNat * 5)).off + 2, none⟩ = some (.int .i64 ((rd_T26 t511 x7_2).f2)) ∧ w'.cell? ⟨(ad516.add ((x7_2).toNat * 5)).block, (ad516.add ((x7_2).toNat * 5)).off + 3, none⟩ = some (.int .i64 ((rd_T26 t511 x7_2).f3)) ∧ w'.cell? ⟨(ad516.add ((x7_2).toNat * 5)).block, (ad516.add ((x7_2).toNat * 5)).off + 4, none⟩ = some (.bool ((rd_T26 t511 x7_2).f4)) ∧ w'.cell? (ad516.add ((x7_2).toNat * 5)) = some (.int .i64 ((rd_T26 t511 x7_2).f0)) ∧ w'.cell? ⟨(ad516.add ((x7_2).toNat * 5)).block, (ad516.add ((x7_2).toNat * 5)).off + 1, none⟩ = some (.string ((rd_T26 t511 x7_2).f1)) ∧ w'.cell? ⟨(ad516.add ((x7_2).toNat * 5)).block, (ad516.add ((x7_2).toNat * 5)).off + 2, none⟩ = some (.int .i64 ((rd_T26 t511 x7_2).f2)) ∧ w'.cell? ⟨(ad516.add ((x7_2).toNat * 5)).block, (ad516.add ((x7_2).toNat * 5)).off + 3, none⟩ = some (.int .i64 ((rd_T26 t511 x7_2).f3)) ∧ w'.cell? ⟨(ad516.add ((x7_2).toNat * 5)).block, (ad516.add ((x7_2).toNat * 5)).off + 4, none⟩ = some (.bool ((rd_T26 t511 x7_2).f4)) ∧ w'.cell? (ad516.add ((x7_2).toNat * 5)) = some (.int .i64 ((rd_T26 t511 x7_2).f0)) ∧ w'.cell? ⟨(ad516.add ((x7_2).toNat * 5)).block, (ad516.add ((x7_2).toNat * 5)).off + 1, none⟩ = some (.string ((rd_T26 t511 x7_2).f1)) ∧ w'.cell? ⟨(ad516.add ((x7_2).toNat * 5)).block, (ad516.add ((x7_2).toNat * 5)).off + 2, none⟩ = some (.int .i64 ((rd_T26 t511 x7_2).f2)) ∧ w'.cell? ⟨(ad516.add ((x7_2).toNat * 5)).block, (ad516.add ((x7_2).toNat * 5)).off + 3, none⟩ = some (.int .i64 ((rd_T26 t511 x7_2).f3)) ∧ w'.cell? ⟨(ad516.add ((x7_2).toNat * 5)).block, (ad516.add ((x7_2).toNat * 5)).off + 4, none⟩ = some (.bool ((rd_T26 t511 x7_2).f4))) (ds := []) (bA 62 0) (by kernel_rfl) rfl rfl ⟨hx516_0, hx516_1, hx516_2, hx516_3, hx516_4, hx517_0, hx517_1, hx517_2, hx517_3, hx517_4, hx518_0, hx518_1, hx518_2, hx518_3, hx518_4, hx519_0, hx519_1, hx519_2, hx519_3, hx519_4, hx520_0, hx520_1, hx520_2, hx520_3, hx520_4, hx522_0, hx522_1, hx522_2, hx522_3, hx522_4, hx523_0, hx523_1, hx523_2, hx523_3, hx523_4, hx524_0, hx524_1, hx524_2, hx524_3, hx524_4⟩ (fun hHeld => ?_); refine with_tabW regletlaw02_ScanCovers.tab9 regletlaw02_ScanCovers.bits9 (fun HT_ HW_ => ?_)
                                generalize wr.drew = w26 at HO_4 HB hx516_0 hx516_1 hx516_2 hx516_3 hx516_4 hx517_0 hx517_1 hx517_2 hx517_3 hx517_4 hx518_0 hx518_1 hx518_2 hx518_3 hx518_4 hx519_0 hx519_1 hx519_2 hx519_3 hx519_4 hx520_0 hx520_1 hx520_2 hx520_3 hx520_4 hx522_0 hx522_1 hx522_2 hx522_3 hx522_4 hx523_0 hx523_1 hx523_2 hx523_3 hx523_4 hx524_0 hx524_1 hx524_2 hx524_3 hx524_4 hHeld ⊢
                                refine pure_ (i := 0) (N := some 32) (v := ?_) (a' := ?_) (bA 62 1) rfl rfl (any_of HT_.out (by kernel_rfl)) (fun _ _ _ h => h) (Or.inl ⟨by rfl, ?_⟩) ?_ ?_; rotate_left; (intro w'; go_simp; with_reducible rfl); rotate_left; (simp only [Act.put, setIfInBounds_toArray, set_cons_zero, set_cons_succ, i64_w, i32_w]; rfl)
                                refine pure_ (i := 1) (N := some 33) (v := ?_) (a' := ?_) (bA 62 3) rfl rfl (any_of HT_.out (by kernel_rfl)) (fun _ _ _ h => h) (Or.inl ⟨by rfl, ?_⟩) ?_ ?_; rotate_left; (intro w'; go_simp; with_reducible rfl); rotate_left; (simp only [Act.put, setIfInBounds_toArray, set_cons_zero, set_cons_succ, i64_w, i32_w]; rfl)
                                refine pure_ (i := 2) (N := some 34) (v := ?_) (a' := ?_) (bA 62 7) rfl rfl (any_of HT_.out (by kernel_rfl)) (fun _ _ _ h => h) (Or.inl ⟨by rfl, ?_⟩) ?_ ?_; rotate_left; (intro w'; go_simp; with_reducible rfl); rotate_left; (simp only [Act.put, setIfInBounds_toArray, set_cons_zero, set_cons_succ, i64_w, i32_w]; rfl)
                                refine pure_ (i := 3) (N := some 35) (v := ?_) (a' := ?_) (bA 62 15) rfl rfl (any_of HT_.out (by kernel_rfl)) (fun _ _ _ h => h) (Or.inl ⟨by rfl, ?_⟩) ?_ ?_; rotate_left; (intro w'; go_simp; with_reducible rfl); rotate_left; (simp only [Act.put, setIfInBounds_toArray, set_cons_zero, set_cons_succ, i64_w, i32_w]; rfl)
                                refine pure_ (i := 5) (N := some 37) (v := ?_) (a' := ?_) (bA 62 47) rfl rfl (any_of HT_.out (by kernel_rfl)) (fun _ _ _ h => h) (Or.inl ⟨by rfl, ?_⟩) ?_ ?_; rotate_left; (intro w'; go_simp; with_reducible rfl); rotate_left; (simp only [Act.put, setIfInBounds_toArray, set_cons_zero, set_cons_succ, i64_w, i32_w]; rfl)
                                refine take_ (i := 4) (N := some 36) (v := ?_) (a' := ?_) (bA 62 63) rfl rfl (take_ofW HT_.out HW_.out (by kernel_rfl)) (fun _ _ _ h => h) (Or.inl ⟨by rfl, ?_⟩) hHeld ?_ ?_; rotate_left; (rintro w' ⟨s0, s1, s2, s3, s4, s5, s6, s7, s8, s9, s10, s11, s12, s13, s14, s15, s16, s17, s18, s19, s20, s21, s22, s23, s24, s25, s26, s27, s28, s29, s30, s31, s32, s33, s34, s35, s36, s37, s38, s39⟩; go_simp; with_reducible rfl); rotate_left; (simp only [Act.put, setIfInBounds_toArray, set_cons_zero, set_cons_succ, i64_w, i32_w]; rfl)
                                refine pure_ (i := 6) (N := some 38) (v := ?_) (a' := ?_) (bA 62 127) rfl rfl (any_of HT_.out (by kernel_rfl)) (fun _ _ _ h => h) (Or.inl ⟨by rfl, ?_⟩) ?_ ?_; rotate_left; (intro w'; go_simp; with_reducible rfl); rotate_left; (simp only [Act.put, setIfInBounds_toArray, set_cons_zero, set_cons_succ, i64_w, i32_w]; rfl)
                                refine pure_ (i := 7) (N := some 39) (v := ?_) (a' := ?_) (bA 62 255) rfl rfl (any_of HT_.out (by kernel_rfl)) (fun _ _ _ h => h) (Or.inl ⟨by rfl, ?_⟩) ?_ ?_; rotate_left; (intro w'; go_simp; with_reducible rfl); rotate_left; (simp only [Act.put, setIfInBounds_toArray, set_cons_zero, set_cons_succ, i64_w, i32_w]; rfl)
                                refine pure_ (i := 8) (N := some 40) (v := ?_) (a' := ?_) (bA 62 511) rfl rfl (any_of HT_.out (by kernel_rfl)) (fun _ _ _ h => h) (Or.inl ⟨by rfl, ?_⟩) ?_ ?_; rotate_left; (intro w'; go_simp; with_reducible rfl); rotate_left; (simp only [Act.put, setIfInBounds_toArray, set_cons_zero, set_cons_succ, i64_w, i32_w]; rfl)
                                refine pure_ (i := 9) (N := some 41) (v := ?_) (a' := ?_) (bA 62 1023) rfl rfl (any_of HT_.out (by kernel_rfl)) (fun _ _ _ h => h) (Or.inl ⟨by rfl, ?_⟩) ?_ ?_; rotate_left; (intro w'; go_simp; with_reducible rfl); rotate_left; (simp only [Act.put, setIfInBounds_toArray, set_cons_zero, set_cons_succ, i64_w, i32_w]; rfl)
                                refine pure_ (i := 10) (N := some 42) (v := ?_) (a' := ?_) (bA 62 2047) rfl rfl (any_of HT_.out (by kernel_rfl)) (fun _ _ _ h => h) (Or.inl ⟨by rfl, ?_⟩) ?_ ?_; rotate_left; (intro w'; go_simp; with_reducible rfl); rotate_left; (simp only [Act.put, setIfInBounds_toArray, set_cons_zero, set_cons_succ, i64_w, i32_w]; rfl)
                                refine pure_ (i := 11) (N := some 43) (v := ?_) (a' := ?_) (bA 62 4095) rfl rfl (any_of HT_.out (by kernel_rfl)) (fun _ _ _ h => h) (Or.inl ⟨by rfl, ?_⟩) ?_ ?_; rotate_left; (intro w'; go_simp; with_reducible rfl); rotate_left; (simp only [Act.put, setIfInBounds_toArray, set_cons_zero, set_cons_succ, i64_w, i32_w]; rfl)
                                refine pure_ (i := 13) (N := some 45) (v := ?_) (a' := ?_) (bA 62 12287) rfl rfl (any_of HT_.out (by kernel_rfl)) (fun _ _ _ h => h) (Or.inl ⟨by rfl, ?_⟩) ?_ ?_; rotate_left; (intro w'; go_simp; with_reducible rfl); rotate_left; (simp only [Act.put, setIfInBounds_toArray, set_cons_zero, set_cons_succ, i64_w, i32_w]; rfl)
                                refine pure_ (i := 14) (N := some 46) (v := ?_) (a' := ?_) (bA 62 28671) rfl rfl (any_of HT_.out (by kernel_rfl)) (fun _ _ _ h => h) (Or.inl ⟨by rfl, ?_⟩) ?_ ?_; rotate_left; (intro w'; go_simp; with_reducible rfl); rotate_left; (simp only [Act.put, setIfInBounds_toArray, set_cons_zero, set_cons_succ, i64_w, i32_w]; rfl)
                                refine pure_ (i := 15) (N := some 47) (v := ?_) (a' := ?_) (bA 62 61439) rfl rfl (any_of HT_.out (by kernel_rfl)) (fun _ _ _ h => h) (Or.inl ⟨by rfl, ?_⟩) ?_ ?_; rotate_left; (intro w'; go_simp; with_reducible rfl); rotate_left; (simp only [Act.put, setIfInBounds_toArray, set_cons_zero, set_cons_succ, i64_w, i32_w]; rfl)
                                refine pure_ (i := 16) (N := some 48) (v := ?_) (a' := ?_) (bA 62 126975) rfl rfl (any_of HT_.out (by kernel_rfl)) (fun _ _ _ h => h) (Or.inl ⟨by rfl, ?_⟩) ?_ ?_; rotate_left; (intro w'; go_simp; with_reducible rfl); rotate_left; (simp only [Act.put, setIfInBounds_toArray, set_cons_zero, set_cons_succ, i64_w, i32_w]; rfl)
                                refine take_ (i := 12) (N := some 44) (v := ?_) (a' := ?_) (bA 62 131071) rfl rfl (take_ofW HT_.out HW_.out (by kernel_rfl)) (fun _ _ _ h => h) (Or.inl ⟨by rfl, ?_⟩) hHeld ?_ ?_; rotate_left; (rintro w' ⟨s0, s1, s2, s3, s4, s5, s6, s7, s8, s9, s10, s11, s12, s13, s14, s15, s16, s17, s18, s19, s20, s21, s22, s23, s24, s25, s26, s27, s28, s29, s30, s31, s32, s33, s34, s35, s36, s37, s38, s39⟩; go_simp; with_reducible rfl); rotate_left; (simp only [Act.put, setIfInBounds_toArray, set_cons_zero, set_cons_succ, i64_w, i32_w]; rfl)
                                refine take_ (i := 17) (N := some 49) (v := ?_) (a' := ?_) (bA 62 262143) rfl rfl (take_ofW HT_.out HW_.out (by kernel_rfl)) (fun _ _ _ h => h) (Or.inl ⟨by rfl, ?_⟩) hHeld ?_ ?_; rotate_left; (rintro w' ⟨s0, s1, s2, s3, s4, s5, s6, s7, s8, s9, s10, s11, s12, s13, s14, s15, s16, s17, s18, s19, s20, s21, s22, s23, s24, s25, s26, s27, s28, s29, s30, s31, s32, s33, s34, s35, s36, s37, s38, s39⟩; go_simp; with_reducible rfl); rotate_left; (simp only [Act.put, setIfInBounds_toArray, set_cons_zero, set_cons_succ, i64_w, i32_w]; rfl)
                                refine pure_ (i := 18) (N := some 50) (v := ?_) (a' := ?_) (bA 62 524287) rfl rfl (any_of HT_.out (by kernel_rfl)) (fun _ _ _ h => h) (Or.inl ⟨by rfl, ?_⟩) ?_ ?_; rotate_left; (intro w'; go_simp; with_reducible rfl); rotate_left; (simp only [Act.put, setIfInBounds_toArray, set_cons_zero, set_cons_succ, i64_w, i32_w]; rfl)
                                refine pure_ (i := 19) (N := some 51) (v := ?_) (a' := ?_) (bA 62 1048575) rfl rfl (any_of HT_.out (by kernel_rfl)) (fun _ _ _ h => h) (Or.inl ⟨by rfl, ?_⟩) ?_ ?_; rotate_left; (intro w'; go_simp; with_reducible rfl); rotate_left; (simp only [Act.put, setIfInBounds_toArray, set_cons_zero, set_cons_succ, i64_w, i32_w]; rfl)
                                refine pure_ (i := 20) (N := some 52) (v := ?_) (a' := ?_) (bA 62 2097151) rfl rfl (any_of HT_.out (by kernel_rfl)) (fun _ _ _ h => h) (Or.inl ⟨by rfl, ?_⟩) ?_ ?_; rotate_left; (intro w'; go_simp; with_reducible rfl); rotate_left; (simp only [Act.put, setIfInBounds_toArray, set_cons_zero, set_cons_succ, i64_w, i32_w]; rfl)
                                refine pure_ (i := 21) (N := some 53) (v := ?_) (a' := ?_) (bA 62 4194303) rfl rfl (any_of HT_.out (by kernel_rfl)) (fun _ _ _ h => h) (Or.inl ⟨by rfl, ?_⟩) ?_ ?_; rotate_left; (intro w'; go_simp; with_reducible rfl); rotate_left; (simp only [Act.put, setIfInBounds_toArray, set_cons_zero, set_cons_succ, i64_w, i32_w]; rfl)
                                refine pure_ (i := 22) (N := some 54) (v := ?_) (a' := ?_) (bA 62 8388607) rfl rfl (any_of HT_.out (by kernel_rfl)) (fun _ _ _ h => h) (Or.inl ⟨by rfl, ?_⟩) ?_ ?_; rotate_left; (intro w'; go_simp; with_reducible rfl); rotate_left; (simp only [Act.put, setIfInBounds_toArray, set_cons_zero, set_cons_succ, i64_w, i32_w]; rfl)
                                refine pure_ (i := 23) (N := some 55) (v := ?_) (a' := ?_) (bA 62 16777215) rfl rfl (any_of HT_.out (by kernel_rfl)) (fun _ _ _ h => h) (Or.inl ⟨by rfl, ?_⟩) ?_ ?_; rotate_left; (intro w'; go_simp; with_reducible rfl); rotate_left; (simp only [Act.put, setIfInBounds_toArray, set_cons_zero, set_cons_succ, i64_w, i32_w]; rfl)
                                refine pure_ (i := 24) (N := some 56) (v := ?_) (a' := ?_) (bA 62 33554431) rfl rfl (any_of HT_.out (by kernel_rfl)) (fun _ _ _ h => h) (Or.inl ⟨by rfl, ?_⟩) ?_ ?_; rotate_left; (intro w'; go_simp; with_reducible rfl); rotate_left; (simp only [Act.put, setIfInBounds_toArray, set_cons_zero, set_cons_succ, i64_w, i32_w]; rfl)
                                refine pure_ (i := 26) (N := some 58) (v := ?_) (a' := ?_) (bA 62 100663295) rfl rfl (any_of HT_.out (by kernel_rfl)) (fun _ _ _ h => h) (Or.inl ⟨by rfl, ?_⟩) ?_ ?_; rotate_left; (intro w'; go_simp; with_reducible rfl); rotate_left; (simp only [Act.put, setIfInBounds_toArray, set_cons_zero, set_cons_succ, i64_w, i32_w]; rfl)
                                refine pure_ (i := 27) (N := some 59) (v := ?_) (a' := ?_) (bA 62 234881023) rfl rfl (any_of HT_.out (by kernel_rfl)) (fun _ _ _ h => h) (Or.inl ⟨by rfl, ?_⟩) ?_ ?_; rotate_left; (intro w'; go_simp; with_reducible rfl); rotate_left; (simp only [Act.put, setIfInBounds_toArray, set_cons_zero, set_cons_succ, i64_w, i32_w]; rfl)
                                refine take_ (i := 25) (N := some 57) (v := ?_) (a' := ?_) (bA 62 268435455) rfl rfl (take_ofW HT_.out HW_.out (by kernel_rfl)) (fun _ _ _ h => h) (Or.inl ⟨by rfl, ?_⟩) hHeld ?_ ?_; rotate_left; (rintro w' ⟨s0, s1, s2, s3, s4, s5, s6, s7, s8, s9, s10, s11, s12, s13, s14, s15, s16, s17, s18, s19, s20, s21, s22, s23, s24, s25, s26, s27, s28, s29, s30, s31, s32, s33, s34, s35, s36, s37, s38, s39⟩; go_simp; with_reducible rfl); rotate_left; (simp only [Act.put, setIfInBounds_toArray, set_cons_zero, set_cons_succ, i64_w, i32_w]; rfl)
                                refine pure_ (i := 28) (N := some 60) (v := ?_) (a' := ?_) (bA 62 536870911) rfl rfl (any_of HT_.out (by kernel_rfl)) (fun _ _ _ h => h) (Or.inl ⟨by rfl, ?_⟩) ?_ ?_; rotate_left; (intro w'; go_simp; with_reducible rfl); rotate_left; (simp only [Act.put, setIfInBounds_toArray, set_cons_zero, set_cons_succ, i64_w, i32_w]; rfl)
                                refine pure_ (i := 29) (N := some 61) (v := ?_) (a' := ?_) (bA 62 1073741823) rfl rfl (any_of HT_.out (by kernel_rfl)) (fun _ _ _ h => h) (Or.inl ⟨by rfl, ?_⟩) ?_ ?_; rotate_left; (intro w'; go_simp; with_reducible rfl); rotate_left; (simp only [Act.put, setIfInBounds_toArray, set_cons_zero, set_cons_succ, i64_w, i32_w]; rfl)
                                refine pure_ (i := 30) (N := some 62) (v := ?_) (a' := ?_) (bA 62 2147483647) rfl rfl (any_of HT_.out (by kernel_rfl)) (fun _ _ _ h => h) (Or.inl ⟨by rfl, ?_⟩) ?_ ?_; rotate_left; (intro w'; go_simp; with_reducible rfl); rotate_left; (simp only [Act.put, setIfInBounds_toArray, set_cons_zero, set_cons_succ, i64_w, i32_w]; rfl)
                                refine pure_ (i := 31) (N := some 63) (v := ?_) (a' := ?_) (bA 62 4294967295) rfl rfl (any_of HT_.out (by kernel_rfl)) (fun _ _ _ h => h) (Or.inl ⟨by rfl, ?_⟩) ?_ ?_; rotate_left; (intro w'; go_simp; with_reducible rfl); rotate_left; (simp only [Act.put, setIfInBounds_toArray, set_cons_zero, set_cons_succ, i64_w, i32_w]; rfl)
                                refine pure_ (i := 32) (N := some 64) (v := ?_) (a' := ?_) (bA 62 8589934591) rfl rfl (any_of HT_.out (by kernel_rfl)) (fun _ _ _ h => h) (Or.inl ⟨by rfl, ?_⟩) ?_ ?_; rotate_left; (intro w'; go_simp; with_reducible rfl); rotate_left; (simp only [Act.put, setIfInBounds_toArray, set_cons_zero, set_cons_succ, i64_w, i32_w]; rfl)
                                refine pure_ (i := 33) (N := some 65) (v := ?_) (a' := ?_) (bA 62 17179869183) rfl rfl (any_of HT_.out (by kernel_rfl)) (fun _ _ _ h => h) (Or.inl ⟨by rfl, ?_⟩) ?_ ?_; rotate_left; (intro w'; go_simp; with_reducible rfl); rotate_left; (simp only [Act.put, setIfInBounds_toArray, set_cons_zero, set_cons_succ, i64_w, i32_w]; rfl)
                                refine pure_ (i := 34) (N := some 66) (v := ?_) (a' := ?_) (bA 62 34359738367) rfl rfl (any_of HT_.out (by kernel_rfl)) (fun _ _ _ h => h) (Or.inl ⟨by rfl, ?_⟩) ?_ ?_; rotate_left; (intro w'; go_simp; with_reducible rfl); rotate_left; (simp only [Act.put, setIfInBounds_toArray, set_cons_zero, set_cons_succ, i64_w, i32_w]; rfl)
                                refine pure_ (i := 35) (N := some 67) (v := ?_) (a' := ?_) (bA 62 68719476735) rfl rfl (any_of HT_.out (by kernel_rfl)) (fun _ _ _ h => h) (Or.inl ⟨by rfl, ?_⟩) ?_ ?_; rotate_left; (intro w'; go_simp; with_reducible rfl); rotate_left; (simp only [Act.put, setIfInBounds_toArray, set_cons_zero, set_cons_succ, i64_w, i32_w]; rfl)
                                refine pure_ (i := 36) (N := some 68) (v := ?_) (a' := ?_) (bA 62 137438953471) rfl rfl (any_of HT_.out (by kernel_rfl)) (fun _ _ _ h => h) (Or.inl ⟨by rfl, ?_⟩) ?_ ?_; rotate_left; (intro w'; go_simp; with_reducible rfl); rotate_left; (simp only [Act.put, setIfInBounds_toArray, set_cons_zero, set_cons_succ, i64_w, i32_w]; rfl)
                                refine take_ (i := 37) (N := some 69) (v := ?_) (a' := ?_) (bA 62 274877906943) rfl rfl (take_ofW HT_.out HW_.out (by kernel_rfl)) (fun _ _ _ h => h) (Or.inl ⟨by rfl, ?_⟩) hHeld ?_ ?_; rotate_left; (rintro w' ⟨s0, s1, s2, s3, s4, s5, s6, s7, s8, s9, s10, s11, s12, s13, s14, s15, s16, s17, s18, s19, s20, s21, s22, s23, s24, s25, s26, s27, s28, s29, s30, s31, s32, s33, s34, s35, s36, s37, s38, s39⟩; go_simp; with_reducible rfl); rotate_left; (simp only [Act.put, setIfInBounds_toArray, set_cons_zero, set_cons_succ, i64_w, i32_w]; rfl)
                                refine pure_ (i := 38) (N := some 70) (v := ?_) (a' := ?_) (bA 62 549755813887) rfl rfl (any_of HT_.out (by kernel_rfl)) (fun _ _ _ h => h) (Or.inl ⟨by rfl, ?_⟩) ?_ ?_; rotate_left; (intro w'; go_simp; with_reducible rfl); rotate_left; (simp only [Act.put, setIfInBounds_toArray, set_cons_zero, set_cons_succ, i64_w, i32_w]; rfl)
                                refine one_ (i := 39) (N := some 71) (bA 62 1099511627775) rfl rfl (one_of HT_.out (by kernel_rfl)) (by decide) (fun K hK => ?_)
                                refine goes_ Try.func57 (by kernel_rfl) rfl #[.string (a0.extract (x6_2 : Int).toNat (((rd_T26 t511 x7_2).f2) : Int).toNat)] (by rfl) rfl rfl (by (try simp only [List.map_toArray, List.map_cons, List.map_nil]); first | done | rfl | (simp only [List.length_drop, List.length_take]; rfl)) ?_
                                with_reducible refine (regletlaw02_spliced.calls k2 (a0.extract (x6_2 : Int).toNat (((rd_T26 t511 x7_2).f2) : Int).toNat) true _ A24.out).mono ?_
                                rintro e w' ⟨rfl, ⟨nd, rfl⟩⟩
                                refine ⟨_, rfl, ?_⟩
                                refine hK.out _ _ ⟨hHeld.1, hHeld.2.1, hHeld.2.2.1, hHeld.2.2.2.1, hHeld.2.2.2.2.1, hHeld.2.2.2.2.2.1, hHeld.2.2.2.2.2.2.1, hHeld.2.2.2.2.2.2.2.1, hHeld.2.2.2.2.2.2.2.2.1, hHeld.2.2.2.2.2.2.2.2.2.1, hHeld.2.2.2.2.2.2.2.2.2.2.1, hHeld.2.2.2.2.2.2.2.2.2.2.2.1, hHeld.2.2.2.2.2.2.2.2.2.2.2.2.1, hHeld.2.2.2.2.2.2.2.2.2.2.2.2.2.1, hHeld.2.2.2.2.2.2.2.2.2.2.2.2.2.2.1, hHeld.2.2.2.2.2.2.2.2.2.2.2.2.2.2.2.1, hHeld.2.2.2.2.2.2.2.2.2.2.2.2.2.2.2.2.1, hHeld.2.2.2.2.2.2.2.2.2.2.2.2.2.2.2.2.2.1, hHeld.2.2.2.2.2.2.2.2.2.2.2.2.2.2.2.2.2.2.1, hHeld.2.2.2.2.2.2.2.2.2.2.2.2.2.2.2.2.2.2.2.1, hHeld.2.2.2.2.2.2.2.2.2.2.2.2.2.2.2.2.2.2.2.2.1, hHeld.2.2.2.2.2.2.2.2.2.2.2.2.2.2.2.2.2.2.2.2.2.1, hHeld.2.2.2.2.2.2.2.2.2.2.2.2.2.2.2.2.2.2.2.2.2.2.1, hHeld.2.2.2.2.2.2.2.2.2.2.2.2.2.2.2.2.2.2.2.2.2.2.2.1, hHeld.2.2.2.2.2.2.2.2.2.2.2.2.2.2.2.2.2.2.2.2.2.2.2.2.1, hHeld.2.2.2.2.2.2.2.2.2.2.2.2.2.2.2.2.2.2.2.2.2.2.2.2.2.1, hHeld.2.2.2.2.2.2.2.2.2.2.2.2.2.2.2.2.2.2.2.2.2.2.2.2.2.2.1, hHeld.2.2.2.2.2.2.2.2.2.2.2.2.2.2.2.2.2.2.2.2.2.2.2.2.2.2.2.1, hHeld.2.2.2.2.2.2.2.2.2.2.2.2.2.2.2.2.2.2.2.2.2.2.2.2.2.2.2.2.1, hHeld.2.2.2.2.2.2.2.2.2.2.2.2.2.2.2.2.2.2.2.2.2.2.2.2.2.2.2.2.2.1, hHeld.2.2.2.2.2.2.2.2.2.2.2.2.2.2.2.2.2.2.2.2.2.2.2.2.2.2.2.2.2.2.1, hHeld.2.2.2.2.2.2.2.2.2.2.2.2.2.2.2.2.2.2.2.2.2.2.2.2.2.2.2.2.2.2.2.1, hHeld.2.2.2.2.2.2.2.2.2.2.2.2.2.2.2.2.2.2.2.2.2.2.2.2.2.2.2.2.2.2.2.2.1, hHeld.2.2.2.2.2.2.2.2.2.2.2.2.2.2.2.2.2.2.2.2.2.2.2.2.2.2.2.2.2.2.2.2.2.1, hHeld.2.2.2.2.2.2.2.2.2.2.2.2.2.2.2.2.2.2.2.2.2.2.2.2.2.2.2.2.2.2.2.2.2.2.1, hHeld.2.2.2.2.2.2.2.2.2.2.2.2.2.2.2.2.2.2.2.2.2.2.2.2.2.2.2.2.2.2.2.2.2.2.2.1, hHeld.2.2.2.2.2.2.2.2.2.2.2.2.2.2.2.2.2.2.2.2.2.2.2.2.2.2.2.2.2.2.2.2.2.2.2.2.1, hHeld.2.2.2.2.2.2.2.2.2.2.2.2.2.2.2.2.2.2.2.2.2.2.2.2.2.2.2.2.2.2.2.2.2.2.2.2.2.1, hHeld.2.2.2.2.2.2.2.2.2.2.2.2.2.2.2.2.2.2.2.2.2.2.2.2.2.2.2.2.2.2.2.2.2.2.2.2.2.2.1, hHeld.2.2.2.2.2.2.2.2.2.2.2.2.2.2.2.2.2.2.2.2.2.2.2.2.2.2.2.2.2.2.2.2.2.2.2.2.2.2.2⟩ (fun hHeld => ?_)
                                clear hK K
                                refine norm_ (a' := ?_) ?_ ?_
                                rotate_left
                                · show Act.put _ (some 71) _ = _
                                  simp only [Act.put, setIfInBounds_toArray, set_cons_zero, set_cons_succ, i64_w, i32_w]
                                  rfl
                                refine pure_ (i := 40) (N := some 72) (v := ?_) (a' := ?_) (bA 62 2199023255551) rfl rfl (any_of HT_.out (by kernel_rfl)) (fun _ _ _ h => h) (Or.inl ⟨by rfl, ?_⟩) ?_ ?_; rotate_left; (intro w'; go_simp; with_reducible rfl); rotate_left; (simp only [Act.put, setIfInBounds_toArray, set_cons_zero, set_cons_succ, i64_w, i32_w]; rfl)
                                refine pure_ (i := 41) (N := some 73) (v := ?_) (a' := ?_) (bA 62 4398046511103) rfl rfl (any_of HT_.out (by kernel_rfl)) (fun _ _ _ h => h) (Or.inl ⟨by rfl, ?_⟩) ?_ ?_; rotate_left; (intro w'; go_simp; with_reducible rfl); rotate_left; (simp only [Act.put, setIfInBounds_toArray, set_cons_zero, set_cons_succ, i64_w, i32_w]; rfl)
                                refine pure_ (i := 42) (N := some 74) (v := ?_) (a' := ?_) (bA 62 8796093022207) rfl rfl (any_of HT_.out (by kernel_rfl)) (fun _ _ _ h => h) (Or.inl ⟨by rfl, ?_⟩) ?_ ?_; rotate_left; (intro w'; go_simp; with_reducible rfl); rotate_left; (simp only [Act.put, setIfInBounds_toArray, set_cons_zero, set_cons_succ, i64_w, i32_w]; rfl)
                                refine pure_ (i := 43) (N := some 75) (v := ?_) (a' := ?_) (bA 62 17592186044415) rfl rfl (any_of HT_.out (by kernel_rfl)) (fun _ _ _ h => h) (Or.inl ⟨by rfl, ?_⟩) ?_ ?_; rotate_left; (intro w'; go_simp; with_reducible rfl); rotate_left; (simp only [Act.put, setIfInBounds_toArray, set_cons_zero, set_cons_succ, i64_w, i32_w]; rfl)
                                refine pure_ (i := 44) (N := some 76) (v := ?_) (a' := ?_) (bA 62 35184372088831) rfl rfl (any_of HT_.out (by kernel_rfl)) (fun _ _ _ h => h) (Or.inl ⟨by rfl, ?_⟩) ?_ ?_; rotate_left; (intro w'; go_simp; with_reducible rfl); rotate_left; (simp only [Act.put, setIfInBounds_toArray, set_cons_zero, set_cons_succ, i64_w, i32_w]; rfl)
                                refine pure_ (i := 45) (N := some 77) (v := ?_) (a' := ?_) (bA 62 70368744177663) rfl rfl (any_of HT_.out (by kernel_rfl)) (fun _ _ _ h => h) (Or.inl ⟨by rfl, ?_⟩) ?_ ?_; rotate_left; (intro w'; go_simp; with_reducible rfl); rotate_left; (simp only [Act.put, setIfInBounds_toArray, set_cons_zero, set_cons_succ, i64_w, i32_w]; rfl)
                                refine pure_ (i := 46) (N := some 78) (v := ?_) (a' := ?_) (bA 62 140737488355327) rfl rfl (any_of HT_.out (by kernel_rfl)) (fun _ _ _ h => h) (Or.inl ⟨by rfl, ?_⟩) ?_ ?_; rotate_left; (intro w'; go_simp; with_reducible rfl); rotate_left; (simp only [Act.put, setIfInBounds_toArray, set_cons_zero, set_cons_succ, i64_w, i32_w]; rfl)
                                refine pure_ (i := 48) (N := some 80) (v := ?_) (a' := ?_) (bA 62 422212465065983) rfl rfl (any_of HT_.out (by kernel_rfl)) (fun _ _ _ h => h) (Or.inl ⟨by rfl, ?_⟩) ?_ ?_; rotate_left; (intro w'; go_simp; with_reducible rfl); rotate_left; (simp only [Act.put, setIfInBounds_toArray, set_cons_zero, set_cons_succ, i64_w, i32_w]; rfl)
                                refine pure_ (i := 49) (N := some 81) (v := ?_) (a' := ?_) (bA 62 985162418487295) rfl rfl (any_of HT_.out (by kernel_rfl)) (fun _ _ _ h => h) (Or.inl ⟨by rfl, ?_⟩) ?_ ?_; rotate_left; (intro w'; go_simp; with_reducible rfl); rotate_left; (simp only [Act.put, setIfInBounds_toArray, set_cons_zero, set_cons_succ, i64_w, i32_w]; rfl)
                                refine pure_ (i := 50) (N := some 82) (v := ?_) (a' := ?_) (bA 62 2111062325329919) rfl rfl (any_of HT_.out (by kernel_rfl)) (fun _ _ _ h => h) (Or.inl ⟨by rfl, ?_⟩) ?_ ?_; rotate_left; (intro w'; go_simp; with_reducible rfl); rotate_left; (simp only [Act.put, setIfInBounds_toArray, set_cons_zero, set_cons_succ, i64_w, i32_w]; rfl)
                                refine pure_ (i := 51) (N := some 83) (v := ?_) (a' := ?_) (bA 62 4362862139015167) rfl rfl (any_of HT_.out (by kernel_rfl)) (fun _ _ _ h => h) (Or.inl ⟨by rfl, ?_⟩) ?_ ?_; rotate_left; (intro w'; go_simp; with_reducible rfl); rotate_left; (simp only [Act.put, setIfInBounds_toArray, set_cons_zero, set_cons_succ, i64_w, i32_w]; rfl)
                                refine pure_ (i := 54) (N := some 86) (v := ?_) (a' := ?_) (bA 62 22377260648497151) rfl rfl (any_of HT_.out (by kernel_rfl)) (fun _ _ _ h => h) (Or.inl ⟨by rfl, ?_⟩) ?_ ?_; rotate_left; (intro w'; go_simp; with_reducible rfl); rotate_left; (simp only [Act.put, setIfInBounds_toArray, set_cons_zero, set_cons_succ, i64_w, i32_w]; rfl)
                                refine pure_ (i := 55) (N := some 87) (v := ?_) (a' := ?_) (bA 62 58406057667461119) rfl rfl (any_of HT_.out (by kernel_rfl)) (fun _ _ _ h => h) (Or.inl ⟨by rfl, ?_⟩) ?_ ?_; rotate_left; (intro w'; go_simp; with_reducible rfl); rotate_left; (simp only [Act.put, setIfInBounds_toArray, set_cons_zero, set_cons_succ, i64_w, i32_w]; rfl)
                                refine pure_ (i := 56) (N := some 88) (v := ?_) (a' := ?_) (bA 62 130463651705389055) rfl rfl (any_of HT_.out (by kernel_rfl)) (fun _ _ _ h => h) (Or.inl ⟨by rfl, ?_⟩) ?_ ?_; rotate_left; (intro w'; go_simp; with_reducible rfl); rotate_left; (simp only [Act.put, setIfInBounds_toArray, set_cons_zero, set_cons_succ, i64_w, i32_w]; rfl)
                                refine pure_ (i := 57) (N := some 89) (v := ?_) (a' := ?_) (bA 62 274578839781244927) rfl rfl (any_of HT_.out (by kernel_rfl)) (fun _ _ _ h => h) (Or.inl ⟨by rfl, ?_⟩) ?_ ?_; rotate_left; (intro w'; go_simp; with_reducible rfl); rotate_left; (simp only [Act.put, setIfInBounds_toArray, set_cons_zero, set_cons_succ, i64_w, i32_w]; rfl)
                                refine take_ (i := 47) (N := some 79) (v := ?_) (a' := ?_) (bA 62 274719577269600255) rfl rfl (take_ofW HT_.out HW_.out (by kernel_rfl)) (fun _ _ _ h => h) (Or.inl ⟨by rfl, ?_⟩) hHeld ?_ ?_; rotate_left; (rintro w' ⟨s0, s1, s2, s3, s4, s5, s6, s7, s8, s9, s10, s11, s12, s13, s14, s15, s16, s17, s18, s19, s20, s21, s22, s23, s24, s25, s26, s27, s28, s29, s30, s31, s32, s33, s34, s35, s36, s37, s38, s39⟩; go_simp; with_reducible rfl); rotate_left; (simp only [Act.put, setIfInBounds_toArray, set_cons_zero, set_cons_succ, i64_w, i32_w]; rfl)
                                refine take_ (i := 52) (N := some 84) (v := ?_) (a' := ?_) (bA 62 279223176896970751) rfl rfl (take_ofW HT_.out HW_.out (by kernel_rfl)) (fun _ _ _ h => h) (Or.inl ⟨by rfl, ?_⟩) hHeld ?_ ?_; rotate_left; (rintro w' ⟨s0, s1, s2, s3, s4, s5, s6, s7, s8, s9, s10, s11, s12, s13, s14, s15, s16, s17, s18, s19, s20, s21, s22, s23, s24, s25, s26, s27, s28, s29, s30, s31, s32, s33, s34, s35, s36, s37, s38, s39⟩; go_simp; with_reducible rfl); rotate_left; (simp only [Act.put, setIfInBounds_toArray, set_cons_zero, set_cons_succ, i64_w, i32_w]; rfl)
                                refine pure_ (i := 53) (N := some 85) (v := ?_) (a' := ?_) (bA 62 288230376151711743) rfl rfl (any_of HT_.out (by kernel_rfl)) (fun _ _ _ h => h) (Or.inl ⟨by rfl, ?_⟩) ?_ ?_; rotate_left; (intro w'; go_simp; with_reducible rfl); rotate_left; (simp only [Act.put, setIfInBounds_toArray, set_cons_zero, set_cons_succ, i64_w, i32_w]; rfl)
                                refine take_ (i := 58) (N := some 90) (v := ?_) (a' := ?_) (bA 62 576460752303423487) rfl rfl (take_ofW HT_.out HW_.out (by kernel_rfl)) (fun _ _ _ h => h) (Or.inl ⟨by rfl, ?_⟩) hHeld ?_ ?_; rotate_left; (rintro w' ⟨s0, s1, s2, s3, s4, s5, s6, s7, s8, s9, s10, s11, s12, s13, s14, s15, s16, s17, s18, s19, s20, s21, s22, s23, s24, s25, s26, s27, s28, s29, s30, s31, s32, s33, s34, s35, s36, s37, s38, s39⟩; go_simp; with_reducible rfl); rotate_left; (simp only [Act.put, setIfInBounds_toArray, set_cons_zero, set_cons_succ, i64_w, i32_w]; rfl)
                                refine pure_ (i := 59) (N := some 91) (v := ?_) (a' := ?_) (bA 62 1152921504606846975) rfl rfl (any_of HT_.out (by kernel_rfl)) (fun _ _ _ h => h) (Or.inl ⟨by rfl, ?_⟩) ?_ ?_; rotate_left; (intro w'; go_simp; with_reducible rfl); rotate_left; (simp only [Act.put, setIfInBounds_toArray, set_cons_zero, set_cons_succ, i64_w, i32_w]; rfl)
                                refine pure_ (i := 60) (N := some 92) (v := ?_) (a' := ?_) (bA 62 2305843009213693951) rfl rfl (any_of HT_.out (by kernel_rfl)) (fun _ _ _ h => h) (Or.inl ⟨by rfl, ?_⟩) ?_ ?_; rotate_left; (intro w'; go_simp; with_reducible rfl); rotate_left; (simp only [Act.put, setIfInBounds_toArray, set_cons_zero, set_cons_succ, i64_w, i32_w]; rfl)
                                refine pure_ (i := 61) (N := some 93) (v := ?_) (a' := ?_) (bA 62 4611686018427387903) rfl rfl (any_of HT_.out (by kernel_rfl)) (fun _ _ _ h => h) (Or.inl ⟨by rfl, ?_⟩) ?_ ?_; rotate_left; (intro w'; go_simp; with_reducible rfl); rotate_left; (simp only [Act.put, setIfInBounds_toArray, set_cons_zero, set_cons_succ, i64_w, i32_w]; rfl)
                                refine done_ (done_of HT_.out (by kernel_rfl)) ?_
                                try go_wp2
                                go_meet
                                case rel => exact ⟨_, (decide ((wrap64 (((rd_T26 t511 x7_2).f3) - ((rd_T26 t511 x7_2).f2))) < (((rd_T26 t511 x7_2).f1).size : Int))), (by first | rfl | (simp; done) | (simp [*]; done)), H', ⟨by have := HJ3.out; have := HK2.out; first | omega | exact Nat.le_refl _⟩, ⟨by (with_reducible repeat (first | apply Kd.R_alloc | apply Kd.R_drewN | apply Kd.R_drew)); exact HO_4.out⟩, ⟨by repeat (first | (with_reducible first | exact HB.out | apply below_alloc | apply pw_below_drewN | apply below_drew1) | exact HB.out)⟩⟩
                              · replace c25 := Bool.eq_false_iff.mpr c25
                                subst c25
                                have H1 : (regletlaw02_ScanCovers.j2 k2 a0 t510 t511 x7_2 true) = some r := by rw [if_neg (show ¬ (false = true) by decide)] at H; exact H
                                clear H
                                have H := H1
                                clear H1
                                have H' := Aside0.mk H
                                clear H
                                try go_wp2
                                have n0_ := Aside0.mk (Kd.R_drew HO_4.out)
                                have n1_ := Aside0.mk (below_drew1 HB.out)
                                clear HO_4
                                clear HB
                                have HO_4 := n0_
                                have HB := n1_
                                clear n0_ n1_
                                have p516 : 0 ≤ (x7_2 : Int) := of_decide_eq_true (by first | (with_reducible assumption) | assumption)
                                have q516 : x7_2 < (t511.length : Int) := of_decide_eq_true (by first | (with_reducible assumption) | assumption)
                                obtain ⟨ad516, e516, hx516_0, hx516_1, hx516_2, hx516_3, hx516_4⟩ := at_T26 (Kd.R_reads' HO_4.out).2.2 x7_2 p516 q516
                                cases e516
                                replace p516 := eq_true p516
                                replace q516 := eq_true q516
                                have p517 : 0 ≤ (x7_2 : Int) := of_decide_eq_true (by first | (with_reducible assumption) | assumption)
                                have q517 : x7_2 < (t511.length : Int) := of_decide_eq_true (by first | (with_reducible assumption) | assumption)
                                obtain ⟨ad517, e517, hx517_0, hx517_1, hx517_2, hx517_3, hx517_4⟩ := at_T26 (Kd.R_reads' HO_4.out).2.2 x7_2 p517 q517
                                obtain rfl : ad516 = ad517 := (by injection e517)
                                replace p517 := eq_true p517
                                replace q517 := eq_true q517
                                have p518 : 0 ≤ (x7_2 : Int) := of_decide_eq_true (by first | (with_reducible assumption) | assumption)
                                have q518 : x7_2 < (t511.length : Int) := of_decide_eq_true (by first | (with_reducible assumption) | assumption)
                                obtain ⟨ad518, e518, hx518_0, hx518_1, hx518_2, hx518_3, hx518_4⟩ := at_T26 (Kd.R_reads' HO_4.out).2.2 x7_2 p518 q518
                                obtain rfl : ad516 = ad518 := (by injection e518)
                                replace p518 := eq_true p518
                                replace q518 := eq_true q518
                                have p519 : 0 ≤ (x7_2 : Int) := of_decide_eq_true (by first | (with_reducible assumption) | assumption)
                                have q519 : x7_2 < (t511.length : Int) := of_decide_eq_true (by first | (with_reducible assumption) | assumption)
                                obtain ⟨ad519, e519, hx519_0, hx519_1, hx519_2, hx519_3, hx519_4⟩ := at_T26 (Kd.R_reads' HO_4.out).2.2 x7_2 p519 q519
                                obtain rfl : ad516 = ad519 := (by injection e519)
                                replace p519 := eq_true p519
                                replace q519 := eq_true q519
                                have p520 : 0 ≤ (x7_2 : Int) := of_decide_eq_true (by first | (with_reducible assumption) | assumption)
                                have q520 : x7_2 < (t511.length : Int) := of_decide_eq_true (by first | (with_reducible assumption) | assumption)
                                obtain ⟨ad520, e520, hx520_0, hx520_1, hx520_2, hx520_3, hx520_4⟩ := at_T26 (Kd.R_reads' HO_4.out).2.2 x7_2 p520 q520
                                obtain rfl : ad516 = ad520 := (by injection e520)
                                replace p520 := eq_true p520
                                replace q520 := eq_true q520
                                refine start_ (n := 62) (S := fun w' => w'.cell? (ad516.add ((x7_2).toNat * 5)) = some (.int .i64 ((rd_T26 t511 x7_2).f0)) ∧ w'.cell? ⟨(ad516.add ((x7_2).toNat * 5)).block, (ad516.add ((x7_2).toNat * 5)).off + 1, none⟩ = some (.string ((rd_T26 t511 x7_2).f1)) ∧ w'.cell? ⟨(ad516.add ((x7_2).toNat * 5)).block, (ad516.add ((x7_2).toNat * 5)).off + 2, none⟩ = some (.int .i64 ((rd_T26 t511 x7_2).f2)) ∧ w'.cell? ⟨(ad516.add ((x7_2).toNat * 5)).block, (ad516.add ((x7_2).toNat * 5)).off + 3, none⟩ = some (.int .i64 ((rd_T26 t511 x7_2).f3)) ∧ w'.cell? ⟨(ad516.add ((x7_2).toNat * 5)).block, (ad516.add ((x7_2).toNat * 5)).off + 4, none⟩ = some (.bool ((rd_T26 t511 x7_2).f4)) ∧ w'.cell? (ad516.add ((x7_2).toNat * 5)) = some (.int .i64 ((rd_T26 t511 x7_2).f0)) ∧ w'.cell? ⟨(ad516.add ((x7_2).toNat * 5)).block, (ad516.add ((x7_2).toNat * 5)).off + 1, none⟩ = some (.string ((rd_T26 t511 x7_2).f1)) ∧ w'.cell? ⟨(ad516.add ((x7_2).toNat * 5)).block, (ad516.add ((x7_2).toNat * 5)).off + 2, none⟩ = some (.int .i64 ((rd_T26 t511 x7_2).f2)) ∧ w'.cell? ⟨(ad516.add ((x7_2).toNat * 5)).block, (ad516.add ((x7_2).toNat * 5)).off + 3, none⟩ = some (.int .i64 ((rd_T26 t511 x7_2).f3)) ∧ w'.cell? ⟨(ad516.add ((x7_2).toNat * 5)).block, (ad516.add ((x7_2).toNat * 5)).off + 4, none⟩ = some (.bool ((rd_T26 t511 x7_2).f4)) ∧ w'.cell? (ad516.add ((x7_2).toNat * 5)) = some (.int .i64 ((rd_T26 t511 x7_2).f0)) ∧ w'.cell? ⟨(ad516.add ((x7_2).toNat * 5)).block, (ad516.add ((x7_2).toNat * 5)).off + 1, none⟩ = some (.string ((rd_T26 t511 x7_2).f1)) ∧ w'.cell? ⟨(ad516.add ((x7_2).toNat * 5)).block, (ad516.add ((x7_2).toNat * 5)).off + 2, none⟩ = some (.int .i64 ((rd_T26 t511 x7_2).f2)) ∧ w'.cell? ⟨(ad516.add ((x7_2).toNat * 5)).block, (ad516.add ((x7_2).toNat * 5)).off + 3, none⟩ = some (.int .i64 ((rd_T26 t511 x7_2).f3)) ∧ w'.cell? ⟨(ad516.add ((x7_2).toNat * 5)).block, (ad516.add ((x7_2).toNat * 5)).off + 4, none⟩ = some (.bool ((rd_T26 t511 x7_2).f4)) ∧ w'.cell? (ad516.add ((x7_2).toNat * 5)) = some (.int .i64 ((rd_T26 t511 x7_2).f0)) ∧ w'.cell? ⟨(ad516.add ((x7_2).toNat * 5)).block, (ad516.add ((x7_2).toNat * 5)).off + 1, none⟩ = some (.string ((rd_T26 t511 x7_2).f1)) ∧ w'.cell? ⟨(ad516.add ((x7_2).toNat * 5)).block, (ad516.add ((x7_2).toNat * 5)).off + 2, none⟩ = some (.int .i64 ((rd_T26 t511 x7_2).f2)) ∧ w'.cell? ⟨(ad516.add ((x7_2).toNat * 5)).block, (ad516.add ((x7_2).toNat * 5)).off + 3, none⟩ = some (.int .i64 ((rd_T26 t511 x7_2).f3)) ∧ w'.cell? ⟨(ad516.add ((x7_2).toNat * 5)).block, (ad516.add ((x7_2).toNat * 5)).off + 4, none⟩ = some (.bool ((rd_T26 t511 x7_2).f4)) ∧ w'.cell? (ad516.add ((x7_2).toNat * 5)) = some (.int .i64 ((rd_T26 t511 x7_2).f0)) ∧ w'.cell? ⟨(ad516.add ((x7_2).toNat * 5)).block, (ad516.add ((x7_2).toNat * 5)).off + 1, none⟩ = some (.string ((rd_T26 t511 x7_2).f1)) ∧ w'.cell? ⟨(ad516.add ((x7_2).toNat * 5)).block, (ad516.add ((x7_2).toNat * 5)).off + 2, none⟩ = some (.int .i64 ((rd_T26 t511 x7_2).f2)) ∧ w'.cell? ⟨(ad516.add ((x7_2).toNat * 5)).block, (ad516.add ((x7_2).toNat * 5)).off + 3, none⟩ = some (.int .i64 ((rd_T26 t511 x7_2).f3)) ∧ w'.cell? ⟨(ad516.add ((x7_2).toNat * 5)).block, (ad516.add ((x7_2).toNat * 5)).off + 4, none⟩ = some (.bool ((rd_T26 t511 x7_2).f4))) (ds := []) (bA 62 0) (by kernel_rfl) rfl rfl ⟨hx516_0, hx516_1, hx516_2, hx516_3, hx516_4, hx517_0, hx517_1, hx517_2, hx517_3, hx517_4, hx518_0, hx518_1, hx518_2, hx518_3, hx518_4, hx519_0, hx519_1, hx519_2, hx519_3, hx519_4, hx520_0, hx520_1, hx520_2, hx520_3, hx520_4⟩ (fun hHeld => ?_); refine with_tabW regletlaw02_ScanCovers.tab9 regletlaw02_ScanCovers.bits9 (fun HT_ HW_ => ?_)
                                generalize wr.drew = w27 at HO_4 HB hx516_0 hx516_1 hx516_2 hx516_3 hx516_4 hx517_0 hx517_1 hx517_2 hx517_3 hx517_4 hx518_0 hx518_1 hx518_2 hx518_3 hx518_4 hx519_0 hx519_1 hx519_2 hx519_3 hx519_4 hx520_0 hx520_1 hx520_2 hx520_3 hx520_4 hHeld ⊢
                                refine pure_ (i := 0) (N := some 32) (v := ?_) (a' := ?_) (bA 62 1) rfl rfl (any_of HT_.out (by kernel_rfl)) (fun _ _ _ h => h) (Or.inl ⟨by rfl, ?_⟩) ?_ ?_; rotate_left; (intro w'; go_simp; with_reducible rfl); rotate_left; (simp only [Act.put, setIfInBounds_toArray, set_cons_zero, set_cons_succ, i64_w, i32_w]; rfl)
                                refine pure_ (i := 1) (N := some 33) (v := ?_) (a' := ?_) (bA 62 3) rfl rfl (any_of HT_.out (by kernel_rfl)) (fun _ _ _ h => h) (Or.inl ⟨by rfl, ?_⟩) ?_ ?_; rotate_left; (intro w'; go_simp; with_reducible rfl); rotate_left; (simp only [Act.put, setIfInBounds_toArray, set_cons_zero, set_cons_succ, i64_w, i32_w]; rfl)
                                refine pure_ (i := 2) (N := some 34) (v := ?_) (a' := ?_) (bA 62 7) rfl rfl (any_of HT_.out (by kernel_rfl)) (fun _ _ _ h => h) (Or.inl ⟨by rfl, ?_⟩) ?_ ?_; rotate_left; (intro w'; go_simp; with_reducible rfl); rotate_left; (simp only [Act.put, setIfInBounds_toArray, set_cons_zero, set_cons_succ, i64_w, i32_w]; rfl)
                                refine pure_ (i := 3) (N := some 35) (v := ?_) (a' := ?_) (bA 62 15) rfl rfl (any_of HT_.out (by kernel_rfl)) (fun _ _ _ h => h) (Or.inl ⟨by rfl, ?_⟩) ?_ ?_; rotate_left; (intro w'; go_simp; with_reducible rfl); rotate_left; (simp only [Act.put, setIfInBounds_toArray, set_cons_zero, set_cons_succ, i64_w, i32_w]; rfl)
                                refine pure_ (i := 5) (N := some 37) (v := ?_) (a' := ?_) (bA 62 47) rfl rfl (any_of HT_.out (by kernel_rfl)) (fun _ _ _ h => h) (Or.inl ⟨by rfl, ?_⟩) ?_ ?_; rotate_left; (intro w'; go_simp; with_reducible rfl); rotate_left; (simp only [Act.put, setIfInBounds_toArray, set_cons_zero, set_cons_succ, i64_w, i32_w]; rfl)
                                refine take_ (i := 4) (N := some 36) (v := ?_) (a' := ?_) (bA 62 63) rfl rfl (take_ofW HT_.out HW_.out (by kernel_rfl)) (fun _ _ _ h => h) (Or.inl ⟨by rfl, ?_⟩) hHeld ?_ ?_; rotate_left; (rintro w' ⟨s0, s1, s2, s3, s4, s5, s6, s7, s8, s9, s10, s11, s12, s13, s14, s15, s16, s17, s18, s19, s20, s21, s22, s23, s24⟩; go_simp; with_reducible rfl); rotate_left; (simp only [Act.put, setIfInBounds_toArray, set_cons_zero, set_cons_succ, i64_w, i32_w]; rfl)
                                refine pure_ (i := 6) (N := some 38) (v := ?_) (a' := ?_) (bA 62 127) rfl rfl (any_of HT_.out (by kernel_rfl)) (fun _ _ _ h => h) (Or.inl ⟨by rfl, ?_⟩) ?_ ?_; rotate_left; (intro w'; go_simp; with_reducible rfl); rotate_left; (simp only [Act.put, setIfInBounds_toArray, set_cons_zero, set_cons_succ, i64_w, i32_w]; rfl)
                                refine pure_ (i := 7) (N := some 39) (v := ?_) (a' := ?_) (bA 62 255) rfl rfl (any_of HT_.out (by kernel_rfl)) (fun _ _ _ h => h) (Or.inl ⟨by rfl, ?_⟩) ?_ ?_; rotate_left; (intro w'; go_simp; with_reducible rfl); rotate_left; (simp only [Act.put, setIfInBounds_toArray, set_cons_zero, set_cons_succ, i64_w, i32_w]; rfl)
                                refine pure_ (i := 8) (N := some 40) (v := ?_) (a' := ?_) (bA 62 511) rfl rfl (any_of HT_.out (by kernel_rfl)) (fun _ _ _ h => h) (Or.inl ⟨by rfl, ?_⟩) ?_ ?_; rotate_left; (intro w'; go_simp; with_reducible rfl); rotate_left; (simp only [Act.put, setIfInBounds_toArray, set_cons_zero, set_cons_succ, i64_w, i32_w]; rfl)
                                refine pure_ (i := 9) (N := some 41) (v := ?_) (a' := ?_) (bA 62 1023) rfl rfl (any_of HT_.out (by kernel_rfl)) (fun _ _ _ h => h) (Or.inl ⟨by rfl, ?_⟩) ?_ ?_; rotate_left; (intro w'; go_simp; with_reducible rfl); rotate_left; (simp only [Act.put, setIfInBounds_toArray, set_cons_zero, set_cons_succ, i64_w, i32_w]; rfl)
                                refine pure_ (i := 10) (N := some 42) (v := ?_) (a' := ?_) (bA 62 2047) rfl rfl (any_of HT_.out (by kernel_rfl)) (fun _ _ _ h => h) (Or.inl ⟨by rfl, ?_⟩) ?_ ?_; rotate_left; (intro w'; go_simp; with_reducible rfl); rotate_left; (simp only [Act.put, setIfInBounds_toArray, set_cons_zero, set_cons_succ, i64_w, i32_w]; rfl)
                                refine pure_ (i := 11) (N := some 43) (v := ?_) (a' := ?_) (bA 62 4095) rfl rfl (any_of HT_.out (by kernel_rfl)) (fun _ _ _ h => h) (Or.inl ⟨by rfl, ?_⟩) ?_ ?_; rotate_left; (intro w'; go_simp; with_reducible rfl); rotate_left; (simp only [Act.put, setIfInBounds_toArray, set_cons_zero, set_cons_succ, i64_w, i32_w]; rfl)
                                refine pure_ (i := 13) (N := some 45) (v := ?_) (a' := ?_) (bA 62 12287) rfl rfl (any_of HT_.out (by kernel_rfl)) (fun _ _ _ h => h) (Or.inl ⟨by rfl, ?_⟩) ?_ ?_; rotate_left; (intro w'; go_simp; with_reducible rfl); rotate_left; (simp only [Act.put, setIfInBounds_toArray, set_cons_zero, set_cons_succ, i64_w, i32_w]; rfl)
                                refine pure_ (i := 14) (N := some 46) (v := ?_) (a' := ?_) (bA 62 28671) rfl rfl (any_of HT_.out (by kernel_rfl)) (fun _ _ _ h => h) (Or.inl ⟨by rfl, ?_⟩) ?_ ?_; rotate_left; (intro w'; go_simp; with_reducible rfl); rotate_left; (simp only [Act.put, setIfInBounds_toArray, set_cons_zero, set_cons_succ, i64_w, i32_w]; rfl)
                                refine pure_ (i := 15) (N := some 47) (v := ?_) (a' := ?_) (bA 62 61439) rfl rfl (any_of HT_.out (by kernel_rfl)) (fun _ _ _ h => h) (Or.inl ⟨by rfl, ?_⟩) ?_ ?_; rotate_left; (intro w'; go_simp; with_reducible rfl); rotate_left; (simp only [Act.put, setIfInBounds_toArray, set_cons_zero, set_cons_succ, i64_w, i32_w]; rfl)
                                refine pure_ (i := 16) (N := some 48) (v := ?_) (a' := ?_) (bA 62 126975) rfl rfl (any_of HT_.out (by kernel_rfl)) (fun _ _ _ h => h) (Or.inl ⟨by rfl, ?_⟩) ?_ ?_; rotate_left; (intro w'; go_simp; with_reducible rfl); rotate_left; (simp only [Act.put, setIfInBounds_toArray, set_cons_zero, set_cons_succ, i64_w, i32_w]; rfl)
                                refine take_ (i := 12) (N := some 44) (v := ?_) (a' := ?_) (bA 62 131071) rfl rfl (take_ofW HT_.out HW_.out (by kernel_rfl)) (fun _ _ _ h => h) (Or.inl ⟨by rfl, ?_⟩) hHeld ?_ ?_; rotate_left; (rintro w' ⟨s0, s1, s2, s3, s4, s5, s6, s7, s8, s9, s10, s11, s12, s13, s14, s15, s16, s17, s18, s19, s20, s21, s22, s23, s24⟩; go_simp; with_reducible rfl); rotate_left; (simp only [Act.put, setIfInBounds_toArray, set_cons_zero, set_cons_succ, i64_w, i32_w]; rfl)
                                refine take_ (i := 17) (N := some 49) (v := ?_) (a' := ?_) (bA 62 262143) rfl rfl (take_ofW HT_.out HW_.out (by kernel_rfl)) (fun _ _ _ h => h) (Or.inl ⟨by rfl, ?_⟩) hHeld ?_ ?_; rotate_left; (rintro w' ⟨s0, s1, s2, s3, s4, s5, s6, s7, s8, s9, s10, s11, s12, s13, s14, s15, s16, s17, s18, s19, s20, s21, s22, s23, s24⟩; go_simp; with_reducible rfl); rotate_left; (simp only [Act.put, setIfInBounds_toArray, set_cons_zero, set_cons_succ, i64_w, i32_w]; rfl)
                                refine pure_ (i := 18) (N := some 50) (v := ?_) (a' := ?_) (bA 62 524287) rfl rfl (any_of HT_.out (by kernel_rfl)) (fun _ _ _ h => h) (Or.inl ⟨by rfl, ?_⟩) ?_ ?_; rotate_left; (intro w'; go_simp; with_reducible rfl); rotate_left; (simp only [Act.put, setIfInBounds_toArray, set_cons_zero, set_cons_succ, i64_w, i32_w]; rfl)
                                refine pure_ (i := 19) (N := some 51) (v := ?_) (a' := ?_) (bA 62 1048575) rfl rfl (any_of HT_.out (by kernel_rfl)) (fun _ _ _ h => h) (Or.inl ⟨by rfl, ?_⟩) ?_ ?_; rotate_left; (intro w'; go_simp; with_reducible rfl); rotate_left; (simp only [Act.put, setIfInBounds_toArray, set_cons_zero, set_cons_succ, i64_w, i32_w]; rfl)
                                refine pure_ (i := 20) (N := some 52) (v := ?_) (a' := ?_) (bA 62 2097151) rfl rfl (any_of HT_.out (by kernel_rfl)) (fun _ _ _ h => h) (Or.inl ⟨by rfl, ?_⟩) ?_ ?_; rotate_left; (intro w'; go_simp; with_reducible rfl); rotate_left; (simp only [Act.put, setIfInBounds_toArray, set_cons_zero, set_cons_succ, i64_w, i32_w]; rfl)
                                refine pure_ (i := 21) (N := some 53) (v := ?_) (a' := ?_) (bA 62 4194303) rfl rfl (any_of HT_.out (by kernel_rfl)) (fun _ _ _ h => h) (Or.inl ⟨by rfl, ?_⟩) ?_ ?_; rotate_left; (intro w'; go_simp; with_reducible rfl); rotate_left; (simp only [Act.put, setIfInBounds_toArray, set_cons_zero, set_cons_succ, i64_w, i32_w]; rfl)
                                refine pure_ (i := 22) (N := some 54) (v := ?_) (a' := ?_) (bA 62 8388607) rfl rfl (any_of HT_.out (by kernel_rfl)) (fun _ _ _ h => h) (Or.inl ⟨by rfl, ?_⟩) ?_ ?_; rotate_left; (intro w'; go_simp; with_reducible rfl); rotate_left; (simp only [Act.put, setIfInBounds_toArray, set_cons_zero, set_cons_succ, i64_w, i32_w]; rfl)
                                refine pure_ (i := 23) (N := some 55) (v := ?_) (a' := ?_) (bA 62 16777215) rfl rfl (any_of HT_.out (by kernel_rfl)) (fun _ _ _ h => h) (Or.inl ⟨by rfl, ?_⟩) ?_ ?_; rotate_left; (intro w'; go_simp; with_reducible rfl); rotate_left; (simp only [Act.put, setIfInBounds_toArray, set_cons_zero, set_cons_succ, i64_w, i32_w]; rfl)
                                refine pure_ (i := 24) (N := some 56) (v := ?_) (a' := ?_) (bA 62 33554431) rfl rfl (any_of HT_.out (by kernel_rfl)) (fun _ _ _ h => h) (Or.inl ⟨by rfl, ?_⟩) ?_ ?_; rotate_left; (intro w'; go_simp; with_reducible rfl); rotate_left; (simp only [Act.put, setIfInBounds_toArray, set_cons_zero, set_cons_succ, i64_w, i32_w]; rfl)
                                refine pure_ (i := 26) (N := some 58) (v := ?_) (a' := ?_) (bA 62 100663295) rfl rfl (any_of HT_.out (by kernel_rfl)) (fun _ _ _ h => h) (Or.inl ⟨by rfl, ?_⟩) ?_ ?_; rotate_left; (intro w'; go_simp; with_reducible rfl); rotate_left; (simp only [Act.put, setIfInBounds_toArray, set_cons_zero, set_cons_succ, i64_w, i32_w]; rfl)
                                refine pure_ (i := 27) (N := some 59) (v := ?_) (a' := ?_) (bA 62 234881023) rfl rfl (any_of HT_.out (by kernel_rfl)) (fun _ _ _ h => h) (Or.inl ⟨by rfl, ?_⟩) ?_ ?_; rotate_left; (intro w'; go_simp; with_reducible rfl); rotate_left; (simp only [Act.put, setIfInBounds_toArray, set_cons_zero, set_cons_succ, i64_w, i32_w]; rfl)
                                refine take_ (i := 25) (N := some 57) (v := ?_) (a' := ?_) (bA 62 268435455) rfl rfl (take_ofW HT_.out HW_.out (by kernel_rfl)) (fun _ _ _ h => h) (Or.inl ⟨by rfl, ?_⟩) hHeld ?_ ?_; rotate_left; (rintro w' ⟨s0, s1, s2, s3, s4, s5, s6, s7, s8, s9, s10, s11, s12, s13, s14, s15, s16, s17, s18, s19, s20, s21, s22, s23, s24⟩; go_simp; with_reducible rfl); rotate_left; (simp only [Act.put, setIfInBounds_toArray, set_cons_zero, set_cons_succ, i64_w, i32_w]; rfl)
                                refine pure_ (i := 28) (N := some 60) (v := ?_) (a' := ?_) (bA 62 536870911) rfl rfl (any_of HT_.out (by kernel_rfl)) (fun _ _ _ h => h) (Or.inl ⟨by rfl, ?_⟩) ?_ ?_; rotate_left; (intro w'; go_simp; with_reducible rfl); rotate_left; (simp only [Act.put, setIfInBounds_toArray, set_cons_zero, set_cons_succ, i64_w, i32_w]; rfl)
                                refine pure_ (i := 29) (N := some 61) (v := ?_) (a' := ?_) (bA 62 1073741823) rfl rfl (any_of HT_.out (by kernel_rfl)) (fun _ _ _ h => h) (Or.inl ⟨by rfl, ?_⟩) ?_ ?_; rotate_left; (intro w'; go_simp; with_reducible rfl); rotate_left; (simp only [Act.put, setIfInBounds_toArray, set_cons_zero, set_cons_succ, i64_w, i32_w]; rfl)
                                refine pure_ (i := 30) (N := some 62) (v := ?_) (a' := ?_) (bA 62 2147483647) rfl rfl (any_of HT_.out (by kernel_rfl)) (fun _ _ _ h => h) (Or.inl ⟨by rfl, ?_⟩) ?_ ?_; rotate_left; (intro w'; go_simp; with_reducible rfl); rotate_left; (simp only [Act.put, setIfInBounds_toArray, set_cons_zero, set_cons_succ, i64_w, i32_w]; rfl)
                                refine pure_ (i := 31) (N := some 63) (v := ?_) (a' := ?_) (bA 62 4294967295) rfl rfl (any_of HT_.out (by kernel_rfl)) (fun _ _ _ h => h) (Or.inl ⟨by rfl, ?_⟩) ?_ ?_; rotate_left; (intro w'; go_simp; with_reducible rfl); rotate_left; (simp only [Act.put, setIfInBounds_toArray, set_cons_zero, set_cons_succ, i64_w, i32_w]; rfl)
                                refine pure_ (i := 32) (N := some 64) (v := ?_) (a' := ?_) (bA 62 8589934591) rfl rfl (any_of HT_.out (by kernel_rfl)) (fun _ _ _ h => h) (Or.inl ⟨by rfl, ?_⟩) ?_ ?_; rotate_left; (intro w'; go_simp; with_reducible rfl); rotate_left; (simp only [Act.put, setIfInBounds_toArray, set_cons_zero, set_cons_succ, i64_w, i32_w]; rfl)
                                refine pure_ (i := 33) (N := some 65) (v := ?_) (a' := ?_) (bA 62 17179869183) rfl rfl (any_of HT_.out (by kernel_rfl)) (fun _ _ _ h => h) (Or.inl ⟨by rfl, ?_⟩) ?_ ?_; rotate_left; (intro w'; go_simp; with_reducible rfl); rotate_left; (simp only [Act.put, setIfInBounds_toArray, set_cons_zero, set_cons_succ, i64_w, i32_w]; rfl)
                                refine pure_ (i := 34) (N := some 66) (v := ?_) (a' := ?_) (bA 62 34359738367) rfl rfl (any_of HT_.out (by kernel_rfl)) (fun _ _ _ h => h) (Or.inl ⟨by rfl, ?_⟩) ?_ ?_; rotate_left; (intro w'; go_simp; with_reducible rfl); rotate_left; (simp only [Act.put, setIfInBounds_toArray, set_cons_zero, set_cons_succ, i64_w, i32_w]; rfl)
                                refine pure_ (i := 35) (N := some 67) (v := ?_) (a' := ?_) (bA 62 68719476735) rfl rfl (any_of HT_.out (by kernel_rfl)) (fun _ _ _ h => h) (Or.inl ⟨by rfl, ?_⟩) ?_ ?_; rotate_left; (intro w'; go_simp; with_reducible rfl); rotate_left; (simp only [Act.put, setIfInBounds_toArray, set_cons_zero, set_cons_succ, i64_w, i32_w]; rfl)
                                refine pure_ (i := 36) (N := some 68) (v := ?_) (a' := ?_) (bA 62 137438953471) rfl rfl (any_of HT_.out (by kernel_rfl)) (fun _ _ _ h => h) (Or.inl ⟨by rfl, ?_⟩) ?_ ?_; rotate_left; (intro w'; go_simp; with_reducible rfl); rotate_left; (simp only [Act.put, setIfInBounds_toArray, set_cons_zero, set_cons_succ, i64_w, i32_w]; rfl)
                                refine take_ (i := 37) (N := some 69) (v := ?_) (a' := ?_) (bA 62 274877906943) rfl rfl (take_ofW HT_.out HW_.out (by kernel_rfl)) (fun _ _ _ h => h) (Or.inl ⟨by rfl, ?_⟩) hHeld ?_ ?_; rotate_left; (rintro w' ⟨s0, s1, s2, s3, s4, s5, s6, s7, s8, s9, s10, s11, s12, s13, s14, s15, s16, s17, s18, s19, s20, s21, s22, s23, s24⟩; go_simp; with_reducible rfl); rotate_left; (simp only [Act.put, setIfInBounds_toArray, set_cons_zero, set_cons_succ, i64_w, i32_w]; rfl)
                                refine pure_ (i := 38) (N := some 70) (v := ?_) (a' := ?_) (bA 62 549755813887) rfl rfl (any_of HT_.out (by kernel_rfl)) (fun _ _ _ h => h) (Or.inl ⟨by rfl, ?_⟩) ?_ ?_; rotate_left; (intro w'; go_simp; with_reducible rfl); rotate_left; (simp only [Act.put, setIfInBounds_toArray, set_cons_zero, set_cons_succ, i64_w, i32_w]; rfl)
                                refine one_ (i := 39) (N := some 71) (bA 62 1099511627775) rfl rfl (one_of HT_.out (by kernel_rfl)) (by decide) (fun K hK => ?_)
                                refine goes_ Try.func57 (by kernel_rfl) rfl #[.string (a0.extract (x6_2 : Int).toNat (((rd_T26 t511 x7_2).f2) : Int).toNat)] (by rfl) rfl rfl (by (try simp only [List.map_toArray, List.map_cons, List.map_nil]); first | done | rfl | (simp only [List.length_drop, List.length_take]; rfl)) ?_
                                with_reducible refine (regletlaw02_spliced.calls k2 (a0.extract (x6_2 : Int).toNat (((rd_T26 t511 x7_2).f2) : Int).toNat) false _ A24.out).mono ?_
                                rintro e w' ⟨rfl, ⟨nd, rfl⟩⟩
                                refine ⟨_, rfl, ?_⟩
                                refine hK.out _ _ ⟨hHeld.1, hHeld.2.1, hHeld.2.2.1, hHeld.2.2.2.1, hHeld.2.2.2.2.1, hHeld.2.2.2.2.2.1, hHeld.2.2.2.2.2.2.1, hHeld.2.2.2.2.2.2.2.1, hHeld.2.2.2.2.2.2.2.2.1, hHeld.2.2.2.2.2.2.2.2.2.1, hHeld.2.2.2.2.2.2.2.2.2.2.1, hHeld.2.2.2.2.2.2.2.2.2.2.2.1, hHeld.2.2.2.2.2.2.2.2.2.2.2.2.1, hHeld.2.2.2.2.2.2.2.2.2.2.2.2.2.1, hHeld.2.2.2.2.2.2.2.2.2.2.2.2.2.2.1, hHeld.2.2.2.2.2.2.2.2.2.2.2.2.2.2.2.1, hHeld.2.2.2.2.2.2.2.2.2.2.2.2.2.2.2.2.1, hHeld.2.2.2.2.2.2.2.2.2.2.2.2.2.2.2.2.2.1, hHeld.2.2.2.2.2.2.2.2.2.2.2.2.2.2.2.2.2.2.1, hHeld.2.2.2.2.2.2.2.2.2.2.2.2.2.2.2.2.2.2.2.1, hHeld.2.2.2.2.2.2.2.2.2.2.2.2.2.2.2.2.2.2.2.2.1, hHeld.2.2.2.2.2.2.2.2.2.2.2.2.2.2.2.2.2.2.2.2.2.1, hHeld.2.2.2.2.2.2.2.2.2.2.2.2.2.2.2.2.2.2.2.2.2.2.1, hHeld.2.2.2.2.2.2.2.2.2.2.2.2.2.2.2.2.2.2.2.2.2.2.2.1, hHeld.2.2.2.2.2.2.2.2.2.2.2.2.2.2.2.2.2.2.2.2.2.2.2.2⟩ (fun hHeld => ?_)
                                clear hK K
                                refine norm_ (a' := ?_) ?_ ?_
                                rotate_left
                                · show Act.put _ (some 71) _ = _
                                  simp only [Act.put, setIfInBounds_toArray, set_cons_zero, set_cons_succ, i64_w, i32_w]
                                  rfl
                                refine pure_ (i := 40) (N := some 72) (v := ?_) (a' := ?_) (bA 62 2199023255551) rfl rfl (any_of HT_.out (by kernel_rfl)) (fun _ _ _ h => h) (Or.inl ⟨by rfl, ?_⟩) ?_ ?_; rotate_left; (intro w'; go_simp; with_reducible rfl); rotate_left; (simp only [Act.put, setIfInBounds_toArray, set_cons_zero, set_cons_succ, i64_w, i32_w]; rfl)
                                refine pure_ (i := 41) (N := some 73) (v := ?_) (a' := ?_) (bA 62 4398046511103) rfl rfl (any_of HT_.out (by kernel_rfl)) (fun _ _ _ h => h) (Or.inl ⟨by rfl, ?_⟩) ?_ ?_; rotate_left; (intro w'; go_simp; with_reducible rfl); rotate_left; (simp only [Act.put, setIfInBounds_toArray, set_cons_zero, set_cons_succ, i64_w, i32_w]; rfl)
                                refine pure_ (i := 42) (N := some 74) (v := ?_) (a' := ?_) (bA 62 8796093022207) rfl rfl (any_of HT_.out (by kernel_rfl)) (fun _ _ _ h => h) (Or.inl ⟨by rfl, ?_⟩) ?_ ?_; rotate_left; (intro w'; go_simp; with_reducible rfl); rotate_left; (simp only [Act.put, setIfInBounds_toArray, set_cons_zero, set_cons_succ, i64_w, i32_w]; rfl)
                                refine pure_ (i := 43) (N := some 75) (v := undef) (a' := ?_) (bA 62 17592186044415) rfl rfl (any_of HT_.out (by kernel_rfl)) (fun _ _ _ h => h) (Or.inr ⟨by rfl, rfl⟩) ?_ ?_; rotate_left; (simp only [Act.put, setIfInBounds_toArray, set_cons_zero, set_cons_succ, i64_w, i32_w]; rfl)
                                refine pure_ (i := 44) (N := some 76) (v := undef) (a' := ?_) (bA 62 35184372088831) rfl rfl (any_of HT_.out (by kernel_rfl)) (fun _ _ _ h => h) (Or.inr ⟨by rfl, rfl⟩) ?_ ?_; rotate_left; (simp only [Act.put, setIfInBounds_toArray, set_cons_zero, set_cons_succ, i64_w, i32_w]; rfl)
                                refine pure_ (i := 45) (N := some 77) (v := undef) (a' := ?_) (bA 62 70368744177663) rfl rfl (any_of HT_.out (by kernel_rfl)) (fun _ _ _ h => h) (Or.inr ⟨by rfl, rfl⟩) ?_ ?_; rotate_left; (simp only [Act.put, setIfInBounds_toArray, set_cons_zero, set_cons_succ, i64_w, i32_w]; rfl)
                                refine pure_ (i := 46) (N := some 78) (v := undef) (a' := ?_) (bA 62 140737488355327) rfl rfl (any_of HT_.out (by kernel_rfl)) (fun _ _ _ h => h) (Or.inr ⟨by rfl, rfl⟩) ?_ ?_; rotate_left; (simp only [Act.put, setIfInBounds_toArray, set_cons_zero, set_cons_succ, i64_w, i32_w]; rfl)
                                refine pure_ (i := 47) (N := some 79) (v := undef) (a' := ?_) (bA 62 281474976710655) rfl rfl (any_of HT_.out (by kernel_rfl)) (fun _ _ _ h => h) (Or.inr ⟨by rfl, rfl⟩) ?_ ?_; rotate_left; (simp only [Act.put, setIfInBounds_toArray, set_cons_zero, set_cons_succ, i64_w, i32_w]; rfl)
                                refine pure_ (i := 48) (N := some 80) (v := undef) (a' := ?_) (bA 62 562949953421311) rfl rfl (any_of HT_.out (by kernel_rfl)) (fun _ _ _ h => h) (Or.inr ⟨by rfl, rfl⟩) ?_ ?_; rotate_left; (simp only [Act.put, setIfInBounds_toArray, set_cons_zero, set_cons_succ, i64_w, i32_w]; rfl)
                                refine pure_ (i := 49) (N := some 81) (v := undef) (a' := ?_) (bA 62 1125899906842623) rfl rfl (any_of HT_.out (by kernel_rfl)) (fun _ _ _ h => h) (Or.inr ⟨by rfl, rfl⟩) ?_ ?_; rotate_left; (simp only [Act.put, setIfInBounds_toArray, set_cons_zero, set_cons_succ, i64_w, i32_w]; rfl)
                                refine pure_ (i := 50) (N := some 82) (v := undef) (a' := ?_) (bA 62 2251799813685247) rfl rfl (any_of HT_.out (by kernel_rfl)) (fun _ _ _ h => h) (Or.inr ⟨by rfl, rfl⟩) ?_ ?_; rotate_left; (simp only [Act.put, setIfInBounds_toArray, set_cons_zero, set_cons_succ, i64_w, i32_w]; rfl)
                                refine pure_ (i := 51) (N := some 83) (v := undef) (a' := ?_) (bA 62 4503599627370495) rfl rfl (any_of HT_.out (by kernel_rfl)) (fun _ _ _ h => h) (Or.inr ⟨by rfl, rfl⟩) ?_ ?_; rotate_left; (simp only [Act.put, setIfInBounds_toArray, set_cons_zero, set_cons_succ, i64_w, i32_w]; rfl)
                                refine pure_ (i := 52) (N := some 84) (v := undef) (a' := ?_) (bA 62 9007199254740991) rfl rfl (any_of HT_.out (by kernel_rfl)) (fun _ _ _ h => h) (Or.inr ⟨by rfl, rfl⟩) ?_ ?_; rotate_left; (simp only [Act.put, setIfInBounds_toArray, set_cons_zero, set_cons_succ, i64_w, i32_w]; rfl)
                                refine pure_ (i := 53) (N := some 85) (v := undef) (a' := ?_) (bA 62 18014398509481983) rfl rfl (any_of HT_.out (by kernel_rfl)) (fun _ _ _ h => h) (Or.inr ⟨by rfl, rfl⟩) ?_ ?_; rotate_left; (simp only [Act.put, setIfInBounds_toArray, set_cons_zero, set_cons_succ, i64_w, i32_w]; rfl)
                                refine pure_ (i := 54) (N := some 86) (v := undef) (a' := ?_) (bA 62 36028797018963967) rfl rfl (any_of HT_.out (by kernel_rfl)) (fun _ _ _ h => h) (Or.inr ⟨by rfl, rfl⟩) ?_ ?_; rotate_left; (simp only [Act.put, setIfInBounds_toArray, set_cons_zero, set_cons_succ, i64_w, i32_w]; rfl)
                                refine pure_ (i := 55) (N := some 87) (v := undef) (a' := ?_) (bA 62 72057594037927935) rfl rfl (any_of HT_.out (by kernel_rfl)) (fun _ _ _ h => h) (Or.inr ⟨by rfl, rfl⟩) ?_ ?_; rotate_left; (simp only [Act.put, setIfInBounds_toArray, set_cons_zero, set_cons_succ, i64_w, i32_w]; rfl)
                                refine pure_ (i := 56) (N := some 88) (v := undef) (a' := ?_) (bA 62 144115188075855871) rfl rfl (any_of HT_.out (by kernel_rfl)) (fun _ _ _ h => h) (Or.inr ⟨by rfl, rfl⟩) ?_ ?_; rotate_left; (simp only [Act.put, setIfInBounds_toArray, set_cons_zero, set_cons_succ, i64_w, i32_w]; rfl)
                                refine pure_ (i := 57) (N := some 89) (v := undef) (a' := ?_) (bA 62 288230376151711743) rfl rfl (any_of HT_.out (by kernel_rfl)) (fun _ _ _ h => h) (Or.inr ⟨by rfl, rfl⟩) ?_ ?_; rotate_left; (simp only [Act.put, setIfInBounds_toArray, set_cons_zero, set_cons_succ, i64_w, i32_w]; rfl)
                                refine pure_ (i := 58) (N := some 90) (v := undef) (a' := ?_) (bA 62 576460752303423487) rfl rfl (any_of HT_.out (by kernel_rfl)) (fun _ _ _ h => h) (Or.inr ⟨by rfl, rfl⟩) ?_ ?_; rotate_left; (simp only [Act.put, setIfInBounds_toArray, set_cons_zero, set_cons_succ, i64_w, i32_w]; rfl)
                                refine pure_ (i := 59) (N := some 91) (v := undef) (a' := ?_) (bA 62 1152921504606846975) rfl rfl (any_of HT_.out (by kernel_rfl)) (fun _ _ _ h => h) (Or.inr ⟨by rfl, rfl⟩) ?_ ?_; rotate_left; (simp only [Act.put, setIfInBounds_toArray, set_cons_zero, set_cons_succ, i64_w, i32_w]; rfl)
                                refine pure_ (i := 60) (N := some 92) (v := undef) (a' := ?_) (bA 62 2305843009213693951) rfl rfl (any_of HT_.out (by kernel_rfl)) (fun _ _ _ h => h) (Or.inr ⟨by rfl, rfl⟩) ?_ ?_; rotate_left; (simp only [Act.put, setIfInBounds_toArray, set_cons_zero, set_cons_succ, i64_w, i32_w]; rfl)
                                refine pure_ (i := 61) (N := some 93) (v := ?_) (a' := ?_) (bA 62 4611686018427387903) rfl rfl (any_of HT_.out (by kernel_rfl)) (fun _ _ _ h => h) (Or.inl ⟨by rfl, ?_⟩) ?_ ?_; rotate_left; (intro w'; go_simp; with_reducible rfl); rotate_left; (simp only [Act.put, setIfInBounds_toArray, set_cons_zero, set_cons_succ, i64_w, i32_w]; rfl)
                                refine done_ (done_of HT_.out (by kernel_rfl)) ?_
                                try go_wp2
                                go_meet
                                case rel => exact ⟨_, (true), (by first | rfl | (simp; done) | (simp [*]; done)), H', ⟨by have := HJ3.out; have := HK2.out; first | omega | exact Nat.le_refl _⟩, ⟨by (with_reducible repeat (first | apply Kd.R_alloc | apply Kd.R_drewN | apply Kd.R_drew)); exact HO_4.out⟩, ⟨by repeat (first | (with_reducible first | exact HB.out | apply below_alloc | apply pw_below_drewN | apply below_drew1) | exact HB.out)⟩⟩
                            · rw [if_neg c23] at H
                              exact absurd H (by simp)
                          · rw [if_neg c22] at H
                            exact absurd H (by simp)
                        · rw [if_neg c21] at H
                          exact absurd H (by simp)
                · rw [if_neg c14] at H
                  exact absurd H (by simp)
              case rest =>
                clear HC12
                try clear c1
                try clear c2
                try clear p2
                try clear c5
                try clear p5
                try clear q5
                try clear hx5
                try clear p6
                try clear c14
                try clear c21
                try clear c22
                try clear c23
                try clear c25
                try clear hx516_0
                try clear hx516_1
                try clear hx516_2
                try clear hx516_3
                try clear hx516_4
                try clear hx517_0
                try clear hx517_1
                try clear hx517_2
                try clear hx517_3
                try clear hx517_4
                try clear hx518_0
                try clear hx518_1
                try clear hx518_2
                try clear hx518_3
                try clear hx518_4
                try clear hx519_0
                try clear hx519_1
                try clear hx519_2
                try clear hx519_3
                try clear hx519_4
                try clear hx520_0
                try clear hx520_1
                try clear hx520_2
                try clear hx520_3
                try clear hx520_4
                try clear p516
                try clear p517
                try clear p518
                try clear p519
                try clear p520
                try clear q516
                try clear q517
                try clear q518
                try clear q519
                try clear q520
                obtain ⟨kq, x93_11, rfl, HA, HJ11, HO_4, HB⟩ := hcut
                cases kq with
                | zero => exact absurd HA.out (by simp [regletlaw02_ScanCovers.j2])
                | succ kj11 =>
                  have H := HA.out
                  clear HA
                  simp only [regletlaw02_ScanCovers.j2] at H
                  by_cases c28 : x93_11 = true
                  · subst c28
                    have H1 : (some false) = some r := by rw [if_pos rfl] at H; exact H
                    clear H
                    have H := H1
                    clear H1
                    obtain rfl := Option.some.inj H
                    go_wp2
                    go_ret
                    exact ⟨by first | rfl | (simp [errW_none, errW_some] <;> rfl) | (simp [*, errW_none, errW_some] <;> rfl), by repeat (first | (with_reducible first | exact HB.out | apply below_alloc | apply pw_below_drewN | apply below_drew1) | exact HB.out)⟩
                  · replace c28 := Bool.eq_false_iff.mpr c28
                    subst c28
                    have H1 : (if 0 ≤ x7_2 then (if x7_2 < (t511.length : Int) then (if (wrap64 (((rd_T26 t511 x7_2).f3) - ((rd_T26 t511 x7_2).f2))) = (((rd_T26 t511 x7_2).f1).size : Int) then (if 0 ≤ ((rd_T26 t511 x7_2).f2) then (if ((rd_T26 t511 x7_2).f2) ≤ ((rd_T26 t511 x7_2).f3) then (if ((rd_T26 t511 x7_2).f3) ≤ (a0.size : Int) then (if (a0.extract (((rd_T26 t511 x7_2).f2) : Int).toNat (((rd_T26 t511 x7_2).f3) : Int).toNat).toList = ((rd_T26 t511 x7_2).f1).toList then (regletlaw02_ScanCovers.l0 kj11 a0 t510 t511 ((rd_T26 t511 x7_2).f3) (wrap64 (x7_2 + 1))) else (some false)) else (none)) else (none)) else (none)) else (regletlaw02_ScanCovers.l0 kj11 a0 t510 t511 ((rd_T26 t511 x7_2).f3) (wrap64 (x7_2 + 1)))) else (none)) else (none)) = some r := by rw [if_neg (show ¬ (false = true) by decide)] at H; exact H
                    clear H
                    have H := H1
                    clear H1
                    by_cases c29 : 0 ≤ x7_2
                    · rw [if_pos c29] at H
                      have c29b0 : decide (0 ≤ x7_2) = true := decide_eq_true c29
                      clear c29
                      by_cases c30 : x7_2 < (t511.length : Int)
                      · rw [if_pos c30] at H
                        have c30b0 : decide (x7_2 < (t511.length : Int)) = true := decide_eq_true c30
                        clear c30
                        by_cases c31 : (wrap64 (((rd_T26 t511 x7_2).f3) - ((rd_T26 t511 x7_2).f2))) = (((rd_T26 t511 x7_2).f1).size : Int)
                        · rw [if_pos c31] at H
                          have c31b0 : ((wrap64 (((rd_T26 t511 x7_2).f3) - ((rd_T26 t511 x7_2).f2))) == (((rd_T26 t511 x7_2).f1).size : Int)) = true := beq_iff_eq.mpr c31
                          have c31b1 : ((wrap64 (((rd_T26 t511 x7_2).f3) - ((rd_T26 t511 x7_2).f2))) != (((rd_T26 t511 x7_2).f1).size : Int)) = false := bne_eq_false_iff_eq.mpr c31
                          clear c31
                          by_cases c32 : 0 ≤ ((rd_T26 t511 x7_2).f2)
                          · rw [if_pos c32] at H
                            have c32b0 := eq_true c32
                            have c32b1 : decide (0 ≤ ((rd_T26 t511 x7_2).f2)) = true := decide_eq_true c32
                            clear c32
                            by_cases c33 : ((rd_T26 t511 x7_2).f2) ≤ ((rd_T26 t511 x7_2).f3)
                            · rw [if_pos c33] at H
                              have c33b0 := eq_true c33
                              have c33b1 : decide (((rd_T26 t511 x7_2).f2) ≤ ((rd_T26 t511 x7_2).f3)) = true := decide_eq_true c33
                              clear c33
                              by_cases c34 : ((rd_T26 t511 x7_2).f3) ≤ (a0.size : Int)
                              · rw [if_pos c34] at H
                                have c34b0 := eq_true c34
                                have c34b1 : decide (((rd_T26 t511 x7_2).f3) ≤ (a0.size : Int)) = true := decide_eq_true c34
                                clear c34
                                by_cases c35 : (a0.extract (((rd_T26 t511 x7_2).f2) : Int).toNat (((rd_T26 t511 x7_2).f3) : Int).toNat).toList = ((rd_T26 t511 x7_2).f1).toList
                                · rw [if_pos c35] at H
                                  have c35b0 : ((a0.extract (((rd_T26 t511 x7_2).f2) : Int).toNat (((rd_T26 t511 x7_2).f3) : Int).toNat).toList == ((rd_T26 t511 x7_2).f1).toList) = true := beq_iff_eq.mpr c35
                                  have c35b1 : ((a0.extract (((rd_T26 t511 x7_2).f2) : Int).toNat (((rd_T26 t511 x7_2).f3) : Int).toNat).toList != ((rd_T26 t511 x7_2).f1).toList) = false := bne_eq_false_iff_eq.mpr c35
                                  clear c35
                                  have H' := Aside0.mk H
                                  clear H
                                  try go_wp2
                                  have n0_ := Aside0.mk (Kd.R_drew HO_4.out)
                                  have n1_ := Aside0.mk (below_drew1 HB.out)
                                  clear HO_4
                                  clear HB
                                  have HO_4 := n0_
                                  have HB := n1_
                                  clear n0_ n1_
                                  have p525 : 0 ≤ (x7_2 : Int) := of_decide_eq_true (by first | (with_reducible assumption) | assumption)
                                  have q525 : x7_2 < (t511.length : Int) := of_decide_eq_true (by first | (with_reducible assumption) | assumption)
                                  obtain ⟨ad525, e525, hx525_0, hx525_1, hx525_2, hx525_3, hx525_4⟩ := at_T26 (Kd.R_reads' HO_4.out).2.2 x7_2 p525 q525
                                  cases e525
                                  replace p525 := eq_true p525
                                  replace q525 := eq_true q525
                                  have p526 : 0 ≤ (x7_2 : Int) := of_decide_eq_true (by first | (with_reducible assumption) | assumption)
                                  have q526 : x7_2 < (t511.length : Int) := of_decide_eq_true (by first | (with_reducible assumption) | assumption)
                                  obtain ⟨ad526, e526, hx526_0, hx526_1, hx526_2, hx526_3, hx526_4⟩ := at_T26 (Kd.R_reads' HO_4.out).2.2 x7_2 p526 q526
                                  obtain rfl : ad525 = ad526 := (by injection e526)
                                  replace p526 := eq_true p526
                                  replace q526 := eq_true q526
                                  have p527 : 0 ≤ (x7_2 : Int) := of_decide_eq_true (by first | (with_reducible assumption) | assumption)
                                  have q527 : x7_2 < (t511.length : Int) := of_decide_eq_true (by first | (with_reducible assumption) | assumption)
                                  obtain ⟨ad527, e527, hx527_0, hx527_1, hx527_2, hx527_3, hx527_4⟩ := at_T26 (Kd.R_reads' HO_4.out).2.2 x7_2 p527 q527
                                  obtain rfl : ad525 = ad527 := (by injection e527)
                                  replace p527 := eq_true p527
                                  replace q527 := eq_true q527
                                  have p528 : 0 ≤ (x7_2 : Int) := of_decide_eq_true (by first | (with_reducible assumption) | assumption)
                                  have q528 : x7_2 < (t511.length : Int) := of_decide_eq_true (by first | (with_reducible assumption) | assumption)
                                  obtain ⟨ad528, e528, hx528_0, hx528_1, hx528_2, hx528_3, hx528_4⟩ := at_T26 (Kd.R_reads' HO_4.out).2.2 x7_2 p528 q528
                                  obtain rfl : ad525 = ad528 := (by injection e528)
                                  replace p528 := eq_true p528
                                  replace q528 := eq_true q528
                                  have p529 : 0 ≤ (x7_2 : Int) := of_decide_eq_true (by first | (with_reducible assumption) | assumption)
                                  have q529 : x7_2 < (t511.length : Int) := of_decide_eq_true (by first | (with_reducible assumption) | assumption)
                                  obtain ⟨ad529, e529, hx529_0, hx529_1, hx529_2, hx529_3, hx529_4⟩ := at_T26 (Kd.R_reads' HO_4.out).2.2 x7_2 p529 q529
                                  obtain rfl : ad525 = ad529 := (by injection e529)
                                  replace p529 := eq_true p529
                                  replace q529 := eq_true q529
                                  have p530 : 0 ≤ (x7_2 : Int) := of_decide_eq_true (by first | (with_reducible assumption) | assumption)
                                  have q530 : x7_2 < (t511.length : Int) := of_decide_eq_true (by first | (with_reducible assumption) | assumption)
                                  obtain ⟨ad530, e530, hx530_0, hx530_1, hx530_2, hx530_3, hx530_4⟩ := at_T26 (Kd.R_reads' HO_4.out).2.2 x7_2 p530 q530
                                  obtain rfl : ad525 = ad530 := (by injection e530)
                                  replace p530 := eq_true p530
                                  replace q530 := eq_true q530
                                  refine start_ (n := 38) (S := fun w' => w'.cell? (ad525.add ((x7_2).toNat * 5)) = some (.int .i64 ((rd_T26 t511 x7_2).f0)) ∧ w'.cell? ⟨(ad525.add ((x7_2).toNat * 5)).block, (ad525.add ((x7_2).toNat * 5)).off + 1, none⟩ = some (.string ((rd_T26 t511 x7_2).f1)) ∧ w'.cell? ⟨(ad525.add ((x7_2).toNat * 5)).block, (ad525.add ((x7_2).toNat * 5)).off + 2, none⟩ = some (.int .i64 ((rd_T26 t511 x7_2).f2)) ∧ w'.cell? ⟨(ad525.add ((x7_2).toNat * 5)).block, (ad525.add ((x7_2).toNat * 5)).off + 3, none⟩ = some (.int .i64 ((rd_T26 t511 x7_2).f3)) ∧ w'.cell? ⟨(ad525.add ((x7_2).toNat * 5)).block, (ad525.add ((x7_2).toNat * 5)).off + 4, none⟩ = some (.bool ((rd_T26 t511 x7_2).f4)) ∧ w'.cell? (ad525.add ((x7_2).toNat * 5)) = some (.int .i64 ((rd_T26 t511 x7_2).f0)) ∧ w'.cell? ⟨(ad525.add ((x7_2).toNat * 5)).block, (ad525.add ((x7_2).toNat * 5)).off + 1, none⟩ = some (.string ((rd_T26 t511 x7_2).f1)) ∧ w'.cell? ⟨(ad525.add ((x7_2).toNat * 5)).block, (ad525.add ((x7_2).toNat * 5)).off + 2, none⟩ = some (.int .i64 ((rd_T26 t511 x7_2).f2)) ∧ w'.cell? ⟨(ad525.add ((x7_2).toNat * 5)).block, (ad525.add ((x7_2).toNat * 5)).off + 3, none⟩ = some (.int .i64 ((rd_T26 t511 x7_2).f3)) ∧ w'.cell? ⟨(ad525.add ((x7_2).toNat * 5)).block, (ad525.add ((x7_2).toNat * 5)).off + 4, none⟩ = some (.bool ((rd_T26 t511 x7_2).f4)) ∧ w'.cell? (ad525.add ((x7_2).toNat * 5)) = some (.int .i64 ((rd_T26 t511 x7_2).f0)) ∧ w'.cell? ⟨(ad525.add ((x7_2).toNat * 5)).block, (ad525.add ((x7_2).toNat * 5)).off + 1, none⟩ = some (.string ((rd_T26 t511 x7_2).f1)) ∧ w'.cell? ⟨(ad525.add ((x7_2).toNat * 5)).block, (ad525.add ((x7_2).toNat * 5)).off + 2, none⟩ = some (.int .i64 ((rd_T26 t511 x7_2).f2)) ∧ w'.cell? ⟨(ad525.add ((x7_2).toNat * 5)).block, (ad525.add ((x7_2).toNat * 5)).off + 3, none⟩ = some (.int .i64 ((rd_T26 t511 x7_2).f3)) ∧ w'.cell? ⟨(ad525.add ((x7_2).toNat * 5)).block, (ad525.add ((x7_2).toNat * 5)).off + 4, none⟩ = some (.bool ((rd_T26 t511 x7_2).f4)) ∧ w'.cell? (ad525.add ((x7_2).toNat * 5)) = some (.int .i64 ((rd_T26 t511 x7_2).f0)) ∧ w'.cell? ⟨(ad525.add ((x7_2).toNat * 5)).block, (ad525.add ((x7_2).toNat * 5)).off + 1, none⟩ = some (.string ((rd_T26 t511 x7_2).f1)) ∧ w'.cell? ⟨(ad525.add ((x7_2).toNat * 5)).block, (ad525.add ((x7_2).toNat * 5)).off + 2, none⟩ = some (.int .i64 ((rd_T26 t511 x7_2).f2)) ∧ w'.cell? ⟨(ad525.add ((x7_2).toNat * 5)).block, (ad525.add ((x7_2).toNat * 5)).off + 3, none⟩ = some (.int .i64 ((rd_T26 t511 x7_2).f3)) ∧ w'.cell? ⟨(ad525.add ((x7_2).toNat * 5)).block, (ad525.add ((x7_2).toNat * 5)).off + 4, none⟩ = some (.bool ((rd_T26 t511 x7_2).f4)) ∧ w'.cell? (ad525.add ((x7_2).toNat * 5)) = some (.int .i64 ((rd_T26 t511 x7_2).f0)) ∧ w'.cell? ⟨(ad525.add ((x7_2).toNat * 5)).block, (ad525.add ((x7_2).toNat * 5)).off + 1, none⟩ = some (.string ((rd_T26 t511 x7_2).f1)) ∧ w'.cell? ⟨(ad525.add ((x7_2).toNat * 5)).block, (ad525.add ((x7_2).toNat * 5)).off + 2, none⟩ = some (.int .i64 ((rd_T26 t511 x7_2).f2)) ∧ w'.cell? ⟨(ad525.add ((x7_2).toNat * 5)).block, (ad525.add ((x7_2).toNat * 5)).off + 3, none⟩ = some (.int .i64 ((rd_T26 t511 x7_2).f3)) ∧ w'.cell? ⟨(ad525.add ((x7_2).toNat * 5)).block, (ad525.add ((x7_2).toNat * 5)).off + 4, none⟩ = some (.bool ((rd_T26 t511 x7_2).f4)) ∧ w'.cell? (ad525.add ((x7_2).toNat * 5)) = some (.int .i64 ((rd_T26 t511 x7_2).f0)) ∧ w'.cell? ⟨(ad525.add ((x7_2).toNat * 5)).block, (ad525.add ((x7_2).toNat * 5)).off + 1, none⟩ = some (.string ((rd_T26 t511 x7_2).f1)) ∧ w'.cell? ⟨(ad525.add ((x7_2).toNat * 5)).block, (ad525.add ((x7_2).toNat * 5)).off + 2, none⟩ = some (.int .i64 ((rd_T26 t511 x7_2).f2)) ∧ w'.cell? ⟨(ad525.add ((x7_2).toNat * 5)).block, (ad525.add ((x7_2).toNat * 5)).off + 3, none⟩ = some (.int .i64 ((rd_T26 t511 x7_2).f3)) ∧ w'.cell? ⟨(ad525.add ((x7_2).toNat * 5)).block, (ad525.add ((x7_2).toNat * 5)).off + 4, none⟩ = some (.bool ((rd_T26 t511 x7_2).f4))) (ds := []) (bA 38 0) (by kernel_rfl) rfl rfl ⟨hx525_0, hx525_1, hx525_2, hx525_3, hx525_4, hx526_0, hx526_1, hx526_2, hx526_3, hx526_4, hx527_0, hx527_1, hx527_2, hx527_3, hx527_4, hx528_0, hx528_1, hx528_2, hx528_3, hx528_4, hx529_0, hx529_1, hx529_2, hx529_3, hx529_4, hx530_0, hx530_1, hx530_2, hx530_3, hx530_4⟩ (fun hHeld => ?_); refine with_tabW regletlaw02_ScanCovers.tab11 regletlaw02_ScanCovers.bits11 (fun HT_ HW_ => ?_)
                                  generalize wc.drew = w36 at HO_4 HB hx525_0 hx525_1 hx525_2 hx525_3 hx525_4 hx526_0 hx526_1 hx526_2 hx526_3 hx526_4 hx527_0 hx527_1 hx527_2 hx527_3 hx527_4 hx528_0 hx528_1 hx528_2 hx528_3 hx528_4 hx529_0 hx529_1 hx529_2 hx529_3 hx529_4 hx530_0 hx530_1 hx530_2 hx530_3 hx530_4 hHeld ⊢
                                  refine pure_ (i := 0) (N := some 94) (v := ?_) (a' := ?_) (bA 38 1) rfl rfl (any_of HT_.out (by kernel_rfl)) (fun _ _ _ h => h) (Or.inl ⟨by rfl, ?_⟩) ?_ ?_; rotate_left; (intro w'; go_simp; with_reducible rfl); rotate_left; (simp only [Act.put, setIfInBounds_toArray, set_cons_zero, set_cons_succ, i64_w, i32_w]; rfl)
                                  refine pure_ (i := 1) (N := some 95) (v := ?_) (a' := ?_) (bA 38 3) rfl rfl (any_of HT_.out (by kernel_rfl)) (fun _ _ _ h => h) (Or.inl ⟨by rfl, ?_⟩) ?_ ?_; rotate_left; (intro w'; go_simp; with_reducible rfl); rotate_left; (simp only [Act.put, setIfInBounds_toArray, set_cons_zero, set_cons_succ, i64_w, i32_w]; rfl)
                                  refine pure_ (i := 2) (N := some 96) (v := ?_) (a' := ?_) (bA 38 7) rfl rfl (any_of HT_.out (by kernel_rfl)) (fun _ _ _ h => h) (Or.inl ⟨by rfl, ?_⟩) ?_ ?_; rotate_left; (intro w'; go_simp; with_reducible rfl); rotate_left; (simp only [Act.put, setIfInBounds_toArray, set_cons_zero, set_cons_succ, i64_w, i32_w]; rfl)
                                  refine pure_ (i := 3) (N := some 97) (v := ?_) (a' := ?_) (bA 38 15) rfl rfl (any_of HT_.out (by kernel_rfl)) (fun _ _ _ h => h) (Or.inl ⟨by rfl, ?_⟩) ?_ ?_; rotate_left; (intro w'; go_simp; with_reducible rfl); rotate_left; (simp only [Act.put, setIfInBounds_toArray, set_cons_zero, set_cons_succ, i64_w, i32_w]; rfl)
                                  refine pure_ (i := 5) (N := some 99) (v := ?_) (a' := ?_) (bA 38 47) rfl rfl (any_of HT_.out (by kernel_rfl)) (fun _ _ _ h => h) (Or.inl ⟨by rfl, ?_⟩) ?_ ?_; rotate_left; (intro w'; go_simp; with_reducible rfl); rotate_left; (simp only [Act.put, setIfInBounds_toArray, set_cons_zero, set_cons_succ, i64_w, i32_w]; rfl)
                                  refine pure_ (i := 6) (N := some 100) (v := ?_) (a' := ?_) (bA 38 111) rfl rfl (any_of HT_.out (by kernel_rfl)) (fun _ _ _ h => h) (Or.inl ⟨by rfl, ?_⟩) ?_ ?_; rotate_left; (intro w'; go_simp; with_reducible rfl); rotate_left; (simp only [Act.put, setIfInBounds_toArray, set_cons_zero, set_cons_succ, i64_w, i32_w]; rfl)
                                  refine pure_ (i := 7) (N := some 101) (v := ?_) (a' := ?_) (bA 38 239) rfl rfl (any_of HT_.out (by kernel_rfl)) (fun _ _ _ h => h) (Or.inl ⟨by rfl, ?_⟩) ?_ ?_; rotate_left; (intro w'; go_simp; with_reducible rfl); rotate_left; (simp only [Act.put, setIfInBounds_toArray, set_cons_zero, set_cons_succ, i64_w, i32_w]; rfl)
                                  refine pure_ (i := 8) (N := some 102) (v := ?_) (a' := ?_) (bA 38 495) rfl rfl (any_of HT_.out (by kernel_rfl)) (fun _ _ _ h => h) (Or.inl ⟨by rfl, ?_⟩) ?_ ?_; rotate_left; (intro w'; go_simp; with_reducible rfl); rotate_left; (simp only [Act.put, setIfInBounds_toArray, set_cons_zero, set_cons_succ, i64_w, i32_w]; rfl)
                                  refine pure_ (i := 11) (N := some 105) (v := ?_) (a' := ?_) (bA 38 2543) rfl rfl (any_of HT_.out (by kernel_rfl)) (fun _ _ _ h => h) (Or.inl ⟨by rfl, ?_⟩) ?_ ?_; rotate_left; (intro w'; go_simp; with_reducible rfl); rotate_left; (simp only [Act.put, setIfInBounds_toArray, set_cons_zero, set_cons_succ, i64_w, i32_w]; rfl)
                                  refine pure_ (i := 12) (N := some 106) (v := ?_) (a' := ?_) (bA 38 6639) rfl rfl (any_of HT_.out (by kernel_rfl)) (fun _ _ _ h => h) (Or.inl ⟨by rfl, ?_⟩) ?_ ?_; rotate_left; (intro w'; go_simp; with_reducible rfl); rotate_left; (simp only [Act.put, setIfInBounds_toArray, set_cons_zero, set_cons_succ, i64_w, i32_w]; rfl)
                                  refine pure_ (i := 13) (N := some 107) (v := ?_) (a' := ?_) (bA 38 14831) rfl rfl (any_of HT_.out (by kernel_rfl)) (fun _ _ _ h => h) (Or.inl ⟨by rfl, ?_⟩) ?_ ?_; rotate_left; (intro w'; go_simp; with_reducible rfl); rotate_left; (simp only [Act.put, setIfInBounds_toArray, set_cons_zero, set_cons_succ, i64_w, i32_w]; rfl)
                                  refine pure_ (i := 14) (N := some 108) (v := ?_) (a' := ?_) (bA 38 31215) rfl rfl (any_of HT_.out (by kernel_rfl)) (fun _ _ _ h => h) (Or.inl ⟨by rfl, ?_⟩) ?_ ?_; rotate_left; (intro w'; go_simp; with_reducible rfl); rotate_left; (simp only [Act.put, setIfInBounds_toArray, set_cons_zero, set_cons_succ, i64_w, i32_w]; rfl)
                                  refine take_ (i := 4) (N := some 98) (v := ?_) (a' := ?_) (bA 38 31231) rfl rfl (take_ofW HT_.out HW_.out (by kernel_rfl)) (fun _ _ _ h => h) (Or.inl ⟨by rfl, ?_⟩) hHeld ?_ ?_; rotate_left; (rintro w' ⟨s0, s1, s2, s3, s4, s5, s6, s7, s8, s9, s10, s11, s12, s13, s14, s15, s16, s17, s18, s19, s20, s21, s22, s23, s24, s25, s26, s27, s28, s29⟩; go_simp; with_reducible rfl); rotate_left; (simp only [Act.put, setIfInBounds_toArray, set_cons_zero, set_cons_succ, i64_w, i32_w]; rfl)
                                  refine take_ (i := 9) (N := some 103) (v := ?_) (a' := ?_) (bA 38 31743) rfl rfl (take_ofW HT_.out HW_.out (by kernel_rfl)) (fun _ _ _ h => h) (Or.inl ⟨by rfl, ?_⟩) hHeld ?_ ?_; rotate_left; (rintro w' ⟨s0, s1, s2, s3, s4, s5, s6, s7, s8, s9, s10, s11, s12, s13, s14, s15, s16, s17, s18, s19, s20, s21, s22, s23, s24, s25, s26, s27, s28, s29⟩; go_simp; with_reducible rfl); rotate_left; (simp only [Act.put, setIfInBounds_toArray, set_cons_zero, set_cons_succ, i64_w, i32_w]; rfl)
                                  refine pure_ (i := 10) (N := some 104) (v := ?_) (a' := ?_) (bA 38 32767) rfl rfl (any_of HT_.out (by kernel_rfl)) (fun _ _ _ h => h) (Or.inl ⟨by rfl, ?_⟩) ?_ ?_; rotate_left; (intro w'; go_simp; with_reducible rfl); rotate_left; (simp only [Act.put, setIfInBounds_toArray, set_cons_zero, set_cons_succ, i64_w, i32_w]; rfl)
                                  refine take_ (i := 15) (N := some 109) (v := ?_) (a' := ?_) (bA 38 65535) rfl rfl (take_ofW HT_.out HW_.out (by kernel_rfl)) (fun _ _ _ h => h) (Or.inl ⟨by rfl, ?_⟩) hHeld ?_ ?_; rotate_left; (rintro w' ⟨s0, s1, s2, s3, s4, s5, s6, s7, s8, s9, s10, s11, s12, s13, s14, s15, s16, s17, s18, s19, s20, s21, s22, s23, s24, s25, s26, s27, s28, s29⟩; go_simp; with_reducible rfl); rotate_left; (simp only [Act.put, setIfInBounds_toArray, set_cons_zero, set_cons_succ, i64_w, i32_w]; rfl)
                                  refine pure_ (i := 16) (N := some 110) (v := ?_) (a' := ?_) (bA 38 131071) rfl rfl (any_of HT_.out (by kernel_rfl)) (fun _ _ _ h => h) (Or.inl ⟨by rfl, ?_⟩) ?_ ?_; rotate_left; (intro w'; go_simp; with_reducible rfl); rotate_left; (simp only [Act.put, setIfInBounds_toArray, set_cons_zero, set_cons_succ, i64_w, i32_w]; rfl)
                                  refine pure_ (i := 17) (N := some 111) (v := ?_) (a' := ?_) (bA 38 262143) rfl rfl (any_of HT_.out (by kernel_rfl)) (fun _ _ _ h => h) (Or.inl ⟨by rfl, ?_⟩) ?_ ?_; rotate_left; (intro w'; go_simp; with_reducible rfl); rotate_left; (simp only [Act.put, setIfInBounds_toArray, set_cons_zero, set_cons_succ, i64_w, i32_w]; rfl)
                                  refine pure_ (i := 18) (N := some 112) (v := ?_) (a' := ?_) (bA 38 524287) rfl rfl (any_of HT_.out (by kernel_rfl)) (fun _ _ _ h => h) (Or.inl ⟨by rfl, ?_⟩) ?_ ?_; rotate_left; (intro w'; go_simp; with_reducible rfl); rotate_left; (simp only [Act.put, setIfInBounds_toArray, set_cons_zero, set_cons_succ, i64_w, i32_w]; rfl)
                                  refine pure_ (i := 19) (N := some 113) (v := ?_) (a' := ?_) (bA 38 1048575) rfl rfl (any_of HT_.out (by kernel_rfl)) (fun _ _ _ h => h) (Or.inl ⟨by rfl, ?_⟩) ?_ ?_; rotate_left; (intro w'; go_simp; with_reducible rfl); rotate_left; (simp only [Act.put, setIfInBounds_toArray, set_cons_zero, set_cons_succ, i64_w, i32_w]; rfl)
                                  refine pure_ (i := 20) (N := some 114) (v := ?_) (a' := ?_) (bA 38 2097151) rfl rfl (any_of HT_.out (by kernel_rfl)) (fun _ _ _ h => h) (Or.inl ⟨by rfl, ?_⟩) ?_ ?_; rotate_left; (intro w'; go_simp; with_reducible rfl); rotate_left; (simp only [Act.put, setIfInBounds_toArray, set_cons_zero, set_cons_succ, i64_w, i32_w]; rfl)
                                  refine pure_ (i := 21) (N := some 115) (v := ?_) (a' := ?_) (bA 38 4194303) rfl rfl (any_of HT_.out (by kernel_rfl)) (fun _ _ _ h => h) (Or.inl ⟨by rfl, ?_⟩) ?_ ?_; rotate_left; (intro w'; go_simp; with_reducible rfl); rotate_left; (simp only [Act.put, setIfInBounds_toArray, set_cons_zero, set_cons_succ, i64_w, i32_w]; rfl)
                                  refine pure_ (i := 22) (N := some 116) (v := ?_) (a' := ?_) (bA 38 8388607) rfl rfl (any_of HT_.out (by kernel_rfl)) (fun _ _ _ h => h) (Or.inl ⟨by rfl, ?_⟩) ?_ ?_; rotate_left; (intro w'; go_simp; with_reducible rfl); rotate_left; (simp only [Act.put, setIfInBounds_toArray, set_cons_zero, set_cons_succ, i64_w, i32_w]; rfl)
                                  refine pure_ (i := 23) (N := some 117) (v := ?_) (a' := ?_) (bA 38 16777215) rfl rfl (any_of HT_.out (by kernel_rfl)) (fun _ _ _ h => h) (Or.inl ⟨by rfl, ?_⟩) ?_ ?_; rotate_left; (intro w'; go_simp; with_reducible rfl); rotate_left; (simp only [Act.put, setIfInBounds_toArray, set_cons_zero, set_cons_succ, i64_w, i32_w]; rfl)
                                  refine pure_ (i := 25) (N := some 119) (v := ?_) (a' := ?_) (bA 38 50331647) rfl rfl (any_of HT_.out (by kernel_rfl)) (fun _ _ _ h => h) (Or.inl ⟨by rfl, ?_⟩) ?_ ?_; rotate_left; (intro w'; go_simp; with_reducible rfl); rotate_left; (simp only [Act.put, setIfInBounds_toArray, set_cons_zero, set_cons_succ, i64_w, i32_w]; rfl)
                                  refine pure_ (i := 26) (N := some 120) (v := ?_) (a' := ?_) (bA 38 117440511) rfl rfl (any_of HT_.out (by kernel_rfl)) (fun _ _ _ h => h) (Or.inl ⟨by rfl, ?_⟩) ?_ ?_; rotate_left; (intro w'; go_simp; with_reducible rfl); rotate_left; (simp only [Act.put, setIfInBounds_toArray, set_cons_zero, set_cons_succ, i64_w, i32_w]; rfl)
                                  refine pure_ (i := 27) (N := some 121) (v := ?_) (a' := ?_) (bA 38 251658239) rfl rfl (any_of HT_.out (by kernel_rfl)) (fun _ _ _ h => h) (Or.inl ⟨by rfl, ?_⟩) ?_ ?_; rotate_left; (intro w'; go_simp; with_reducible rfl); rotate_left; (simp only [Act.put, setIfInBounds_toArray, set_cons_zero, set_cons_succ, i64_w, i32_w]; rfl)
                                  refine pure_ (i := 28) (N := some 122) (v := ?_) (a' := ?_) (bA 38 520093695) rfl rfl (any_of HT_.out (by kernel_rfl)) (fun _ _ _ h => h) (Or.inl ⟨by rfl, ?_⟩) ?_ ?_; rotate_left; (intro w'; go_simp; with_reducible rfl); rotate_left; (simp only [Act.put, setIfInBounds_toArray, set_cons_zero, set_cons_succ, i64_w, i32_w]; rfl)
                                  refine pure_ (i := 31) (N := some 125) (v := ?_) (a' := ?_) (bA 38 2667577343) rfl rfl (any_of HT_.out (by kernel_rfl)) (fun _ _ _ h => h) (Or.inl ⟨by rfl, ?_⟩) ?_ ?_; rotate_left; (intro w'; go_simp; with_reducible rfl); rotate_left; (simp only [Act.put, setIfInBounds_toArray, set_cons_zero, set_cons_succ, i64_w, i32_w]; rfl)
                                  refine pure_ (i := 32) (N := some 126) (v := ?_) (a' := ?_) (bA 38 6962544639) rfl rfl (any_of HT_.out (by kernel_rfl)) (fun _ _ _ h => h) (Or.inl ⟨by rfl, ?_⟩) ?_ ?_; rotate_left; (intro w'; go_simp; with_reducible rfl); rotate_left; (simp only [Act.put, setIfInBounds_toArray, set_cons_zero, set_cons_succ, i64_w, i32_w]; rfl)
                                  refine pure_ (i := 33) (N := some 127) (v := ?_) (a' := ?_) (bA 38 15552479231) rfl rfl (any_of HT_.out (by kernel_rfl)) (fun _ _ _ h => h) (Or.inl ⟨by rfl, ?_⟩) ?_ ?_; rotate_left; (intro w'; go_simp; with_reducible rfl); rotate_left; (simp only [Act.put, setIfInBounds_toArray, set_cons_zero, set_cons_succ, i64_w, i32_w]; rfl)
                                  refine pure_ (i := 34) (N := some 128) (v := ?_) (a' := ?_) (bA 38 32732348415) rfl rfl (any_of HT_.out (by kernel_rfl)) (fun _ _ _ h => h) (Or.inl ⟨by rfl, ?_⟩) ?_ ?_; rotate_left; (intro w'; go_simp; with_reducible rfl); rotate_left; (simp only [Act.put, setIfInBounds_toArray, set_cons_zero, set_cons_succ, i64_w, i32_w]; rfl)
                                  refine take_ (i := 24) (N := some 118) (v := ?_) (a' := ?_) (bA 38 32749125631) rfl rfl (take_ofW HT_.out HW_.out (by kernel_rfl)) (fun _ _ _ h => h) (Or.inl ⟨by rfl, ?_⟩) hHeld ?_ ?_; rotate_left; (rintro w' ⟨s0, s1, s2, s3, s4, s5, s6, s7, s8, s9, s10, s11, s12, s13, s14, s15, s16, s17, s18, s19, s20, s21, s22, s23, s24, s25, s26, s27, s28, s29⟩; go_simp; with_reducible rfl); rotate_left; (simp only [Act.put, setIfInBounds_toArray, set_cons_zero, set_cons_succ, i64_w, i32_w]; rfl)
                                  refine take_ (i := 29) (N := some 123) (v := ?_) (a' := ?_) (bA 38 33285996543) rfl rfl (take_ofW HT_.out HW_.out (by kernel_rfl)) (fun _ _ _ h => h) (Or.inl ⟨by rfl, ?_⟩) hHeld ?_ ?_; rotate_left; (rintro w' ⟨s0, s1, s2, s3, s4, s5, s6, s7, s8, s9, s10, s11, s12, s13, s14, s15, s16, s17, s18, s19, s20, s21, s22, s23, s24, s25, s26, s27, s28, s29⟩; go_simp; with_reducible rfl); rotate_left; (simp only [Act.put, setIfInBounds_toArray, set_cons_zero, set_cons_succ, i64_w, i32_w]; rfl)
                                  refine pure_ (i := 30) (N := some 124) (v := ?_) (a' := ?_) (bA 38 34359738367) rfl rfl (any_of HT_.out (by kernel_rfl)) (fun _ _ _ h => h) (Or.inl ⟨by rfl, ?_⟩) ?_ ?_; rotate_left; (intro w'; go_simp; with_reducible rfl); rotate_left; (simp only [Act.put, setIfInBounds_toArray, set_cons_zero, set_cons_succ, i64_w, i32_w]; rfl)
                                  refine take_ (i := 35) (N := some 129) (v := ?_) (a' := ?_) (bA 38 68719476735) rfl rfl (take_ofW HT_.out HW_.out (by kernel_rfl)) (fun _ _ _ h => h) (Or.inl ⟨by rfl, ?_⟩) hHeld ?_ ?_; rotate_left; (rintro w' ⟨s0, s1, s2, s3, s4, s5, s6, s7, s8, s9, s10, s11, s12, s13, s14, s15, s16, s17, s18, s19, s20, s21, s22, s23, s24, s25, s26, s27, s28, s29⟩; go_simp; with_reducible rfl); rotate_left; (simp only [Act.put, setIfInBounds_toArray, set_cons_zero, set_cons_succ, i64_w, i32_w]; rfl)
                                  refine pure_ (i := 36) (N := some 130) (v := ?_) (a' := ?_) (bA 38 137438953471) rfl rfl (any_of HT_.out (by kernel_rfl)) (fun _ _ _ h => h) (Or.inl ⟨by rfl, ?_⟩) ?_ ?_; rotate_left; (intro w'; go_simp; with_reducible rfl); rotate_left; (simp only [Act.put, setIfInBounds_toArray, set_cons_zero, set_cons_succ, i64_w, i32_w]; rfl)
                                  refine pure_ (i := 37) (N := some 131) (v := ?_) (a' := ?_) (bA 38 274877906943) rfl rfl (any_of HT_.out (by kernel_rfl)) (fun _ _ _ h => h) (Or.inl ⟨by rfl, ?_⟩) ?_ ?_; rotate_left; (intro w'; go_simp; with_reducible rfl); rotate_left; (simp only [Act.put, setIfInBounds_toArray, set_cons_zero, set_cons_succ, i64_w, i32_w]; rfl)
                                  refine done_ (done_of HT_.out (by kernel_rfl)) ?_
                                  have p531 : 0 ≤ (x7_2 : Int) := of_decide_eq_true (by first | (with_reducible assumption) | assumption)
                                  have q531 : x7_2 < (t511.length : Int) := of_decide_eq_true (by first | (with_reducible assumption) | assumption)
                                  obtain ⟨ad531, e531, hx531_0, hx531_1, hx531_2, hx531_3, hx531_4⟩ := at_T26 (Kd.R_reads' HO_4.out).2.2 x7_2 p531 q531
                                  obtain rfl : ad525 = ad531 := (by injection e531)
                                  replace p531 := eq_true p531
                                  replace q531 := eq_true q531
                                  try go_wp2
                                  go_roundg kj11
                                  case measure => have := HJ3.out; have := HK2.out; have := HJ11.out; omega
                                  case rel => exact ⟨((rd_T26 t511 x7_2).f3), (wrap64 (x7_2 + 1)), (by first | rfl | (simp; done) | (simp [*]; done)), (by first | rfl | (simp; done) | (simp [*]; done)), H', ⟨by have := HJ3.out; have := HK2.out; have := HJ11.out; omega⟩, ⟨by (with_reducible repeat (first | apply Kd.R_alloc | apply Kd.R_drewN | apply Kd.R_drew)); exact HO_4.out⟩, ⟨by repeat (first | (with_reducible first | exact HB.out | apply below_alloc | apply pw_below_drewN | apply below_drew1) | exact HB.out)⟩⟩
                                · rw [if_neg c35] at H
                                  have c35b0 : ((a0.extract (((rd_T26 t511 x7_2).f2) : Int).toNat (((rd_T26 t511 x7_2).f3) : Int).toNat).toList == ((rd_T26 t511 x7_2).f1).toList) = false := beq_eq_false_iff_ne.mpr c35
                                  have c35b1 : ((a0.extract (((rd_T26 t511 x7_2).f2) : Int).toNat (((rd_T26 t511 x7_2).f3) : Int).toNat).toList != ((rd_T26 t511 x7_2).f1).toList) = true := bne_iff_ne.mpr c35
                                  obtain rfl := Option.some.inj H
                                  try go_wp2
                                  have n0_ := Aside0.mk (Kd.R_drew HO_4.out)
                                  have n1_ := Aside0.mk (below_drew1 HB.out)
                                  clear HO_4
                                  clear HB
                                  have HO_4 := n0_
                                  have HB := n1_
                                  clear n0_ n1_
                                  have p525 : 0 ≤ (x7_2 : Int) := of_decide_eq_true (by first | (with_reducible assumption) | assumption)
                                  have q525 : x7_2 < (t511.length : Int) := of_decide_eq_true (by first | (with_reducible assumption) | assumption)
                                  obtain ⟨ad525, e525, hx525_0, hx525_1, hx525_2, hx525_3, hx525_4⟩ := at_T26 (Kd.R_reads' HO_4.out).2.2 x7_2 p525 q525
                                  cases e525
                                  replace p525 := eq_true p525
                                  replace q525 := eq_true q525
                                  have p526 : 0 ≤ (x7_2 : Int) := of_decide_eq_true (by first | (with_reducible assumption) | assumption)
                                  have q526 : x7_2 < (t511.length : Int) := of_decide_eq_true (by first | (with_reducible assumption) | assumption)
                                  obtain ⟨ad526, e526, hx526_0, hx526_1, hx526_2, hx526_3, hx526_4⟩ := at_T26 (Kd.R_reads' HO_4.out).2.2 x7_2 p526 q526
                                  obtain rfl : ad525 = ad526 := (by injection e526)
                                  replace p526 := eq_true p526
                                  replace q526 := eq_true q526
                                  have p527 : 0 ≤ (x7_2 : Int) := of_decide_eq_true (by first | (with_reducible assumption) | assumption)
                                  have q527 : x7_2 < (t511.length : Int) := of_decide_eq_true (by first | (with_reducible assumption) | assumption)
                                  obtain ⟨ad527, e527, hx527_0, hx527_1, hx527_2, hx527_3, hx527_4⟩ := at_T26 (Kd.R_reads' HO_4.out).2.2 x7_2 p527 q527
                                  obtain rfl : ad525 = ad527 := (by injection e527)
                                  replace p527 := eq_true p527
                                  replace q527 := eq_true q527
                                  have p528 : 0 ≤ (x7_2 : Int) := of_decide_eq_true (by first | (with_reducible assumption) | assumption)
                                  have q528 : x7_2 < (t511.length : Int) := of_decide_eq_true (by first | (with_reducible assumption) | assumption)
                                  obtain ⟨ad528, e528, hx528_0, hx528_1, hx528_2, hx528_3, hx528_4⟩ := at_T26 (Kd.R_reads' HO_4.out).2.2 x7_2 p528 q528
                                  obtain rfl : ad525 = ad528 := (by injection e528)
                                  replace p528 := eq_true p528
                                  replace q528 := eq_true q528
                                  have p529 : 0 ≤ (x7_2 : Int) := of_decide_eq_true (by first | (with_reducible assumption) | assumption)
                                  have q529 : x7_2 < (t511.length : Int) := of_decide_eq_true (by first | (with_reducible assumption) | assumption)
                                  obtain ⟨ad529, e529, hx529_0, hx529_1, hx529_2, hx529_3, hx529_4⟩ := at_T26 (Kd.R_reads' HO_4.out).2.2 x7_2 p529 q529
                                  obtain rfl : ad525 = ad529 := (by injection e529)
                                  replace p529 := eq_true p529
                                  replace q529 := eq_true q529
                                  have p530 : 0 ≤ (x7_2 : Int) := of_decide_eq_true (by first | (with_reducible assumption) | assumption)
                                  have q530 : x7_2 < (t511.length : Int) := of_decide_eq_true (by first | (with_reducible assumption) | assumption)
                                  obtain ⟨ad530, e530, hx530_0, hx530_1, hx530_2, hx530_3, hx530_4⟩ := at_T26 (Kd.R_reads' HO_4.out).2.2 x7_2 p530 q530
                                  obtain rfl : ad525 = ad530 := (by injection e530)
                                  replace p530 := eq_true p530
                                  replace q530 := eq_true q530
                                  refine start_ (n := 38) (S := fun w' => w'.cell? (ad525.add ((x7_2).toNat * 5)) = some (.int .i64 ((rd_T26 t511 x7_2).f0)) ∧ w'.cell? ⟨(ad525.add ((x7_2).toNat * 5)).block, (ad525.add ((x7_2).toNat * 5)).off + 1, none⟩ = some (.string ((rd_T26 t511 x7_2).f1)) ∧ w'.cell? ⟨(ad525.add ((x7_2).toNat * 5)).block, (ad525.add ((x7_2).toNat * 5)).off + 2, none⟩ = some (.int .i64 ((rd_T26 t511 x7_2).f2)) ∧ w'.cell? ⟨(ad525.add ((x7_2).toNat * 5)).block, (ad525.add ((x7_2).toNat * 5)).off + 3, none⟩ = some (.int .i64 ((rd_T26 t511 x7_2).f3)) ∧ w'.cell? ⟨(ad525.add ((x7_2).toNat * 5)).block, (ad525.add ((x7_2).toNat * 5)).off + 4, none⟩ = some (.bool ((rd_T26 t511 x7_2).f4)) ∧ w'.cell? (ad525.add ((x7_2).toNat * 5)) = some (.int .i64 ((rd_T26 t511 x7_2).f0)) ∧ w'.cell? ⟨(ad525.add ((x7_2).toNat * 5)).block, (ad525.add ((x7_2).toNat * 5)).off + 1, none⟩ = some (.string ((rd_T26 t511 x7_2).f1)) ∧ w'.cell? ⟨(ad525.add ((x7_2).toNat * 5)).block, (ad525.add ((x7_2).toNat * 5)).off + 2, none⟩ = some (.int .i64 ((rd_T26 t511 x7_2).f2)) ∧ w'.cell? ⟨(ad525.add ((x7_2).toNat * 5)).block, (ad525.add ((x7_2).toNat * 5)).off + 3, none⟩ = some (.int .i64 ((rd_T26 t511 x7_2).f3)) ∧ w'.cell? ⟨(ad525.add ((x7_2).toNat * 5)).block, (ad525.add ((x7_2).toNat * 5)).off + 4, none⟩ = some (.bool ((rd_T26 t511 x7_2).f4)) ∧ w'.cell? (ad525.add ((x7_2).toNat * 5)) = some (.int .i64 ((rd_T26 t511 x7_2).f0)) ∧ w'.cell? ⟨(ad525.add ((x7_2).toNat * 5)).block, (ad525.add ((x7_2).toNat * 5)).off + 1, none⟩ = some (.string ((rd_T26 t511 x7_2).f1)) ∧ w'.cell? ⟨(ad525.add ((x7_2).toNat * 5)).block, (ad525.add ((x7_2).toNat * 5)).off + 2, none⟩ = some (.int .i64 ((rd_T26 t511 x7_2).f2)) ∧ w'.cell? ⟨(ad525.add ((x7_2).toNat * 5)).block, (ad525.add ((x7_2).toNat * 5)).off + 3, none⟩ = some (.int .i64 ((rd_T26 t511 x7_2).f3)) ∧ w'.cell? ⟨(ad525.add ((x7_2).toNat * 5)).block, (ad525.add ((x7_2).toNat * 5)).off + 4, none⟩ = some (.bool ((rd_T26 t511 x7_2).f4)) ∧ w'.cell? (ad525.add ((x7_2).toNat * 5)) = some (.int .i64 ((rd_T26 t511 x7_2).f0)) ∧ w'.cell? ⟨(ad525.add ((x7_2).toNat * 5)).block, (ad525.add ((x7_2).toNat * 5)).off + 1, none⟩ = some (.string ((rd_T26 t511 x7_2).f1)) ∧ w'.cell? ⟨(ad525.add ((x7_2).toNat * 5)).block, (ad525.add ((x7_2).toNat * 5)).off + 2, none⟩ = some (.int .i64 ((rd_T26 t511 x7_2).f2)) ∧ w'.cell? ⟨(ad525.add ((x7_2).toNat * 5)).block, (ad525.add ((x7_2).toNat * 5)).off + 3, none⟩ = some (.int .i64 ((rd_T26 t511 x7_2).f3)) ∧ w'.cell? ⟨(ad525.add ((x7_2).toNat * 5)).block, (ad525.add ((x7_2).toNat * 5)).off + 4, none⟩ = some (.bool ((rd_T26 t511 x7_2).f4)) ∧ w'.cell? (ad525.add ((x7_2).toNat * 5)) = some (.int .i64 ((rd_T26 t511 x7_2).f0)) ∧ w'.cell? ⟨(ad525.add ((x7_2).toNat * 5)).block, (ad525.add ((x7_2).toNat * 5)).off + 1, none⟩ = some (.string ((rd_T26 t511 x7_2).f1)) ∧ w'.cell? ⟨(ad525.add ((x7_2).toNat * 5)).block, (ad525.add ((x7_2).toNat * 5)).off + 2, none⟩ = some (.int .i64 ((rd_T26 t511 x7_2).f2)) ∧ w'.cell? ⟨(ad525.add ((x7_2).toNat * 5)).block, (ad525.add ((x7_2).toNat * 5)).off + 3, none⟩ = some (.int .i64 ((rd_T26 t511 x7_2).f3)) ∧ w'.cell? ⟨(ad525.add ((x7_2).toNat * 5)).block, (ad525.add ((x7_2).toNat * 5)).off + 4, none⟩ = some (.bool ((rd_T26 t511 x7_2).f4)) ∧ w'.cell? (ad525.add ((x7_2).toNat * 5)) = some (.int .i64 ((rd_T26 t511 x7_2).f0)) ∧ w'.cell? ⟨(ad525.add ((x7_2).toNat * 5)).block, (ad525.add ((x7_2).toNat * 5)).off + 1, none⟩ = some (.string ((rd_T26 t511 x7_2).f1)) ∧ w'.cell? ⟨(ad525.add ((x7_2).toNat * 5)).block, (ad525.add ((x7_2).toNat * 5)).off + 2, none⟩ = some (.int .i64 ((rd_T26 t511 x7_2).f2)) ∧ w'.cell? ⟨(ad525.add ((x7_2).toNat * 5)).block, (ad525.add ((x7_2).toNat * 5)).off + 3, none⟩ = some (.int .i64 ((rd_T26 t511 x7_2).f3)) ∧ w'.cell? ⟨(ad525.add ((x7_2).toNat * 5)).block, (ad525.add ((x7_2).toNat * 5)).off + 4, none⟩ = some (.bool ((rd_T26 t511 x7_2).f4))) (ds := []) (bA 38 0) (by kernel_rfl) rfl rfl ⟨hx525_0, hx525_1, hx525_2, hx525_3, hx525_4, hx526_0, hx526_1, hx526_2, hx526_3, hx526_4, hx527_0, hx527_1, hx527_2, hx527_3, hx527_4, hx528_0, hx528_1, hx528_2, hx528_3, hx528_4, hx529_0, hx529_1, hx529_2, hx529_3, hx529_4, hx530_0, hx530_1, hx530_2, hx530_3, hx530_4⟩ (fun hHeld => ?_); refine with_tabW regletlaw02_ScanCovers.tab11 regletlaw02_ScanCovers.bits11 (fun HT_ HW_ => ?_)
                                  generalize wc.drew = w37 at HO_4 HB hx525_0 hx525_1 hx525_2 hx525_3 hx525_4 hx526_0 hx526_1 hx526_2 hx526_3 hx526_4 hx527_0 hx527_1 hx527_2 hx527_3 hx527_4 hx528_0 hx528_1 hx528_2 hx528_3 hx528_4 hx529_0 hx529_1 hx529_2 hx529_3 hx529_4 hx530_0 hx530_1 hx530_2 hx530_3 hx530_4 hHeld ⊢
                                  refine pure_ (i := 0) (N := some 94) (v := ?_) (a' := ?_) (bA 38 1) rfl rfl (any_of HT_.out (by kernel_rfl)) (fun _ _ _ h => h) (Or.inl ⟨by rfl, ?_⟩) ?_ ?_; rotate_left; (intro w'; go_simp; with_reducible rfl); rotate_left; (simp only [Act.put, setIfInBounds_toArray, set_cons_zero, set_cons_succ, i64_w, i32_w]; rfl)
                                  refine pure_ (i := 1) (N := some 95) (v := ?_) (a' := ?_) (bA 38 3) rfl rfl (any_of HT_.out (by kernel_rfl)) (fun _ _ _ h => h) (Or.inl ⟨by rfl, ?_⟩) ?_ ?_; rotate_left; (intro w'; go_simp; with_reducible rfl); rotate_left; (simp only [Act.put, setIfInBounds_toArray, set_cons_zero, set_cons_succ, i64_w, i32_w]; rfl)
                                  refine pure_ (i := 2) (N := some 96) (v := ?_) (a' := ?_) (bA 38 7) rfl rfl (any_of HT_.out (by kernel_rfl)) (fun _ _ _ h => h) (Or.inl ⟨by rfl, ?_⟩) ?_ ?_; rotate_left; (intro w'; go_simp; with_reducible rfl); rotate_left; (simp only [Act.put, setIfInBounds_toArray, set_cons_zero, set_cons_succ, i64_w, i32_w]; rfl)
                                  refine pure_ (i := 3) (N := some 97) (v := ?_) (a' := ?_) (bA 38 15) rfl rfl (any_of HT_.out (by kernel_rfl)) (fun _ _ _ h => h) (Or.inl ⟨by rfl, ?_⟩) ?_ ?_; rotate_left; (intro w'; go_simp; with_reducible rfl); rotate_left; (simp only [Act.put, setIfInBounds_toArray, set_cons_zero, set_cons_succ, i64_w, i32_w]; rfl)
                                  refine pure_ (i := 5) (N := some 99) (v := ?_) (a' := ?_) (bA 38 47) rfl rfl (any_of HT_.out (by kernel_rfl)) (fun _ _ _ h => h) (Or.inl ⟨by rfl, ?_⟩) ?_ ?_; rotate_left; (intro w'; go_simp; with_reducible rfl); rotate_left; (simp only [Act.put, setIfInBounds_toArray, set_cons_zero, set_cons_succ, i64_w, i32_w]; rfl)
                                  refine pure_ (i := 6) (N := some 100) (v := ?_) (a' := ?_) (bA 38 111) rfl rfl (any_of HT_.out (by kernel_rfl)) (fun _ _ _ h => h) (Or.inl ⟨by rfl, ?_⟩) ?_ ?_; rotate_left; (intro w'; go_simp; with_reducible rfl); rotate_left; (simp only [Act.put, setIfInBounds_toArray, set_cons_zero, set_cons_succ, i64_w, i32_w]; rfl)
                                  refine pure_ (i := 7) (N := some 101) (v := ?_) (a' := ?_) (bA 38 239) rfl rfl (any_of HT_.out (by kernel_rfl)) (fun _ _ _ h => h) (Or.inl ⟨by rfl, ?_⟩) ?_ ?_; rotate_left; (intro w'; go_simp; with_reducible rfl); rotate_left; (simp only [Act.put, setIfInBounds_toArray, set_cons_zero, set_cons_succ, i64_w, i32_w]; rfl)
                                  refine pure_ (i := 8) (N := some 102) (v := ?_) (a' := ?_) (bA 38 495) rfl rfl (any_of HT_.out (by kernel_rfl)) (fun _ _ _ h => h) (Or.inl ⟨by rfl, ?_⟩) ?_ ?_; rotate_left; (intro w'; go_simp; with_reducible rfl); rotate_left; (simp only [Act.put, setIfInBounds_toArray, set_cons_zero, set_cons_succ, i64_w, i32_w]; rfl)
                                  refine pure_ (i := 11) (N := some 105) (v := ?_) (a' := ?_) (bA 38 2543) rfl rfl (any_of HT_.out (by kernel_rfl)) (fun _ _ _ h => h) (Or.inl ⟨by rfl, ?_⟩) ?_ ?_; rotate_left; (intro w'; go_simp; with_reducible rfl); rotate_left; (simp only [Act.put, setIfInBounds_toArray, set_cons_zero, set_cons_succ, i64_w, i32_w]; rfl)
                                  refine pure_ (i := 12) (N := some 106) (v := ?_) (a' := ?_) (bA 38 6639) rfl rfl (any_of HT_.out (by kernel_rfl)) (fun _ _ _ h => h) (Or.inl ⟨by rfl, ?_⟩) ?_ ?_; rotate_left; (intro w'; go_simp; with_reducible rfl); rotate_left; (simp only [Act.put, setIfInBounds_toArray, set_cons_zero, set_cons_succ, i64_w, i32_w]; rfl)
                                  refine pure_ (i := 13) (N := some 107) (v := ?_) (a' := ?_) (bA 38 14831) rfl rfl (any_of HT_.out (by kernel_rfl)) (fun _ _ _ h => h) (Or.inl ⟨by rfl, ?_⟩) ?_ ?_; rotate_left; (intro w'; go_simp; with_reducible rfl); rotate_left; (simp only [Act.put, setIfInBounds_toArray, set_cons_zero, set_cons_succ, i64_w, i32_w]; rfl)
                                  refine pure_ (i := 14) (N := some 108) (v := ?_) (a' := ?_) (bA 38 31215) rfl rfl (any_of HT_.out (by kernel_rfl)) (fun _ _ _ h => h) (Or.inl ⟨by rfl, ?_⟩) ?_ ?_; rotate_left; (intro w'; go_simp; with_reducible rfl); rotate_left; (simp only [Act.put, setIfInBounds_toArray, set_cons_zero, set_cons_succ, i64_w, i32_w]; rfl)
                                  refine take_ (i := 4) (N := some 98) (v := ?_) (a' := ?_) (bA 38 31231) rfl rfl (take_ofW HT_.out HW_.out (by kernel_rfl)) (fun _ _ _ h => h) (Or.inl ⟨by rfl, ?_⟩) hHeld ?_ ?_; rotate_left; (rintro w' ⟨s0, s1, s2, s3, s4, s5, s6, s7, s8, s9, s10, s11, s12, s13, s14, s15, s16, s17, s18, s19, s20, s21, s22, s23, s24, s25, s26, s27, s28, s29⟩; go_simp; with_reducible rfl); rotate_left; (simp only [Act.put, setIfInBounds_toArray, set_cons_zero, set_cons_succ, i64_w, i32_w]; rfl)
                                  refine take_ (i := 9) (N := some 103) (v := ?_) (a' := ?_) (bA 38 31743) rfl rfl (take_ofW HT_.out HW_.out (by kernel_rfl)) (fun _ _ _ h => h) (Or.inl ⟨by rfl, ?_⟩) hHeld ?_ ?_; rotate_left; (rintro w' ⟨s0, s1, s2, s3, s4, s5, s6, s7, s8, s9, s10, s11, s12, s13, s14, s15, s16, s17, s18, s19, s20, s21, s22, s23, s24, s25, s26, s27, s28, s29⟩; go_simp; with_reducible rfl); rotate_left; (simp only [Act.put, setIfInBounds_toArray, set_cons_zero, set_cons_succ, i64_w, i32_w]; rfl)
                                  refine pure_ (i := 10) (N := some 104) (v := ?_) (a' := ?_) (bA 38 32767) rfl rfl (any_of HT_.out (by kernel_rfl)) (fun _ _ _ h => h) (Or.inl ⟨by rfl, ?_⟩) ?_ ?_; rotate_left; (intro w'; go_simp; with_reducible rfl); rotate_left; (simp only [Act.put, setIfInBounds_toArray, set_cons_zero, set_cons_succ, i64_w, i32_w]; rfl)
                                  refine take_ (i := 15) (N := some 109) (v := ?_) (a' := ?_) (bA 38 65535) rfl rfl (take_ofW HT_.out HW_.out (by kernel_rfl)) (fun _ _ _ h => h) (Or.inl ⟨by rfl, ?_⟩) hHeld ?_ ?_; rotate_left; (rintro w' ⟨s0, s1, s2, s3, s4, s5, s6, s7, s8, s9, s10, s11, s12, s13, s14, s15, s16, s17, s18, s19, s20, s21, s22, s23, s24, s25, s26, s27, s28, s29⟩; go_simp; with_reducible rfl); rotate_left; (simp only [Act.put, setIfInBounds_toArray, set_cons_zero, set_cons_succ, i64_w, i32_w]; rfl)
                                  refine pure_ (i := 16) (N := some 110) (v := ?_) (a' := ?_) (bA 38 131071) rfl rfl (any_of HT_.out (by kernel_rfl)) (fun _ _ _ h => h) (Or.inl ⟨by rfl, ?_⟩) ?_ ?_; rotate_left; (intro w'; go_simp; with_reducible rfl); rotate_left; (simp only [Act.put, setIfInBounds_toArray, set_cons_zero, set_cons_succ, i64_w, i32_w]; rfl)
                                  refine pure_ (i := 17) (N := some 111) (v := ?_) (a' := ?_) (bA 38 262143) rfl rfl (any_of HT_.out (by kernel_rfl)) (fun _ _ _ h => h) (Or.inl ⟨by rfl, ?_⟩) ?_ ?_; rotate_left; (intro w'; go_simp; with_reducible rfl); rotate_left; (simp only [Act.put, setIfInBounds_toArray, set_cons_zero, set_cons_succ, i64_w, i32_w]; rfl)
                                  refine pure_ (i := 18) (N := some 112) (v := ?_) (a' := ?_) (bA 38 524287) rfl rfl (any_of HT_.out (by kernel_rfl)) (fun _ _ _ h => h) (Or.inl ⟨by rfl, ?_⟩) ?_ ?_; rotate_left; (intro w'; go_simp; with_reducible rfl); rotate_left; (simp only [Act.put, setIfInBounds_toArray, set_cons_zero, set_cons_succ, i64_w, i32_w]; rfl)
                                  refine pure_ (i := 19) (N := some 113) (v := ?_) (a' := ?_) (bA 38 1048575) rfl rfl (any_of HT_.out (by kernel_rfl)) (fun _ _ _ h => h) (Or.inl ⟨by rfl, ?_⟩) ?_ ?_; rotate_left; (intro w'; go_simp; with_reducible rfl); rotate_left; (simp only [Act.put, setIfInBounds_toArray, set_cons_zero, set_cons_succ, i64_w, i32_w]; rfl)
                                  refine pure_ (i := 20) (N := some 114) (v := ?_) (a' := ?_) (bA 38 2097151) rfl rfl (any_of HT_.out (by kernel_rfl)) (fun _ _ _ h => h) (Or.inl ⟨by rfl, ?_⟩) ?_ ?_; rotate_left; (intro w'; go_simp; with_reducible rfl); rotate_left; (simp only [Act.put, setIfInBounds_toArray, set_cons_zero, set_cons_succ, i64_w, i32_w]; rfl)
                                  refine pure_ (i := 21) (N := some 115) (v := ?_) (a' := ?_) (bA 38 4194303) rfl rfl (any_of HT_.out (by kernel_rfl)) (fun _ _ _ h => h) (Or.inl ⟨by rfl, ?_⟩) ?_ ?_; rotate_left; (intro w'; go_simp; with_reducible rfl); rotate_left; (simp only [Act.put, setIfInBounds_toArray, set_cons_zero, set_cons_succ, i64_w, i32_w]; rfl)
                                  refine pure_ (i := 22) (N := some 116) (v := ?_) (a' := ?_) (bA 38 8388607) rfl rfl (any_of HT_.out (by kernel_rfl)) (fun _ _ _ h => h) (Or.inl ⟨by rfl, ?_⟩) ?_ ?_; rotate_left; (intro w'; go_simp; with_reducible rfl); rotate_left; (simp only [Act.put, setIfInBounds_toArray, set_cons_zero, set_cons_succ, i64_w, i32_w]; rfl)
                                  refine pure_ (i := 23) (N := some 117) (v := ?_) (a' := ?_) (bA 38 16777215) rfl rfl (any_of HT_.out (by kernel_rfl)) (fun _ _ _ h => h) (Or.inl ⟨by rfl, ?_⟩) ?_ ?_; rotate_left; (intro w'; go_simp; with_reducible rfl); rotate_left; (simp only [Act.put, setIfInBounds_toArray, set_cons_zero, set_cons_succ, i64_w, i32_w]; rfl)
                                  refine pure_ (i := 25) (N := some 119) (v := ?_) (a' := ?_) (bA 38 50331647) rfl rfl (any_of HT_.out (by kernel_rfl)) (fun _ _ _ h => h) (Or.inl ⟨by rfl, ?_⟩) ?_ ?_; rotate_left; (intro w'; go_simp; with_reducible rfl); rotate_left; (simp only [Act.put, setIfInBounds_toArray, set_cons_zero, set_cons_succ, i64_w, i32_w]; rfl)
                                  refine pure_ (i := 26) (N := some 120) (v := ?_) (a' := ?_) (bA 38 117440511) rfl rfl (any_of HT_.out (by kernel_rfl)) (fun _ _ _ h => h) (Or.inl ⟨by rfl, ?_⟩) ?_ ?_; rotate_left; (intro w'; go_simp; with_reducible rfl); rotate_left; (simp only [Act.put, setIfInBounds_toArray, set_cons_zero, set_cons_succ, i64_w, i32_w]; rfl)
                                  refine pure_ (i := 27) (N := some 121) (v := ?_) (a' := ?_) (bA 38 251658239) rfl rfl (any_of HT_.out (by kernel_rfl)) (fun _ _ _ h => h) (Or.inl ⟨by rfl, ?_⟩) ?_ ?_; rotate_left; (intro w'; go_simp; with_reducible rfl); rotate_left; (simp only [Act.put, setIfInBounds_toArray, set_cons_zero, set_cons_succ, i64_w, i32_w]; rfl)
                                  refine pure_ (i := 28) (N := some 122) (v := ?_) (a' := ?_) (bA 38 520093695) rfl rfl (any_of HT_.out (by kernel_rfl)) (fun _ _ _ h => h) (Or.inl ⟨by rfl, ?_⟩) ?_ ?_; rotate_left; (intro w'; go_simp; with_reducible rfl); rotate_left; (simp only [Act.put, setIfInBounds_toArray, set_cons_zero, set_cons_succ, i64_w, i32_w]; rfl)
                                  refine pure_ (i := 31) (N := some 125) (v := ?_) (a' := ?_) (bA 38 2667577343) rfl rfl (any_of HT_.out (by kernel_rfl)) (fun _ _ _ h => h) (Or.inl ⟨by rfl, ?_⟩) ?_ ?_; rotate_left; (intro w'; go_simp; with_reducible rfl); rotate_left; (simp only [Act.put, setIfInBounds_toArray, set_cons_zero, set_cons_succ, i64_w, i32_w]; rfl)
                                  refine pure_ (i := 32) (N := some 126) (v := ?_) (a' := ?_) (bA 38 6962544639) rfl rfl (any_of HT_.out (by kernel_rfl)) (fun _ _ _ h => h) (Or.inl ⟨by rfl, ?_⟩) ?_ ?_; rotate_left; (intro w'; go_simp; with_reducible rfl); rotate_left; (simp only [Act.put, setIfInBounds_toArray, set_cons_zero, set_cons_succ, i64_w, i32_w]; rfl)
                                  refine pure_ (i := 33) (N := some 127) (v := ?_) (a' := ?_) (bA 38 15552479231) rfl rfl (any_of HT_.out (by kernel_rfl)) (fun _ _ _ h => h) (Or.inl ⟨by rfl, ?_⟩) ?_ ?_; rotate_left; (intro w'; go_simp; with_reducible rfl); rotate_left; (simp only [Act.put, setIfInBounds_toArray, set_cons_zero, set_cons_succ, i64_w, i32_w]; rfl)
                                  refine pure_ (i := 34) (N := some 128) (v := ?_) (a' := ?_) (bA 38 32732348415) rfl rfl (any_of HT_.out (by kernel_rfl)) (fun _ _ _ h => h) (Or.inl ⟨by rfl, ?_⟩) ?_ ?_; rotate_left; (intro w'; go_simp; with_reducible rfl); rotate_left; (simp only [Act.put, setIfInBounds_toArray, set_cons_zero, set_cons_succ, i64_w, i32_w]; rfl)
                                  refine take_ (i := 24) (N := some 118) (v := ?_) (a' := ?_) (bA 38 32749125631) rfl rfl (take_ofW HT_.out HW_.out (by kernel_rfl)) (fun _ _ _ h => h) (Or.inl ⟨by rfl, ?_⟩) hHeld ?_ ?_; rotate_left; (rintro w' ⟨s0, s1, s2, s3, s4, s5, s6, s7, s8, s9, s10, s11, s12, s13, s14, s15, s16, s17, s18, s19, s20, s21, s22, s23, s24, s25, s26, s27, s28, s29⟩; go_simp; with_reducible rfl); rotate_left; (simp only [Act.put, setIfInBounds_toArray, set_cons_zero, set_cons_succ, i64_w, i32_w]; rfl)
                                  refine take_ (i := 29) (N := some 123) (v := ?_) (a' := ?_) (bA 38 33285996543) rfl rfl (take_ofW HT_.out HW_.out (by kernel_rfl)) (fun _ _ _ h => h) (Or.inl ⟨by rfl, ?_⟩) hHeld ?_ ?_; rotate_left; (rintro w' ⟨s0, s1, s2, s3, s4, s5, s6, s7, s8, s9, s10, s11, s12, s13, s14, s15, s16, s17, s18, s19, s20, s21, s22, s23, s24, s25, s26, s27, s28, s29⟩; go_simp; with_reducible rfl); rotate_left; (simp only [Act.put, setIfInBounds_toArray, set_cons_zero, set_cons_succ, i64_w, i32_w]; rfl)
                                  refine pure_ (i := 30) (N := some 124) (v := ?_) (a' := ?_) (bA 38 34359738367) rfl rfl (any_of HT_.out (by kernel_rfl)) (fun _ _ _ h => h) (Or.inl ⟨by rfl, ?_⟩) ?_ ?_; rotate_left; (intro w'; go_simp; with_reducible rfl); rotate_left; (simp only [Act.put, setIfInBounds_toArray, set_cons_zero, set_cons_succ, i64_w, i32_w]; rfl)
                                  refine take_ (i := 35) (N := some 129) (v := ?_) (a' := ?_) (bA 38 68719476735) rfl rfl (take_ofW HT_.out HW_.out (by kernel_rfl)) (fun _ _ _ h => h) (Or.inl ⟨by rfl, ?_⟩) hHeld ?_ ?_; rotate_left; (rintro w' ⟨s0, s1, s2, s3, s4, s5, s6, s7, s8, s9, s10, s11, s12, s13, s14, s15, s16, s17, s18, s19, s20, s21, s22, s23, s24, s25, s26, s27, s28, s29⟩; go_simp; with_reducible rfl); rotate_left; (simp only [Act.put, setIfInBounds_toArray, set_cons_zero, set_cons_succ, i64_w, i32_w]; rfl)
                                  refine pure_ (i := 36) (N := some 130) (v := ?_) (a' := ?_) (bA 38 137438953471) rfl rfl (any_of HT_.out (by kernel_rfl)) (fun _ _ _ h => h) (Or.inl ⟨by rfl, ?_⟩) ?_ ?_; rotate_left; (intro w'; go_simp; with_reducible rfl); rotate_left; (simp only [Act.put, setIfInBounds_toArray, set_cons_zero, set_cons_succ, i64_w, i32_w]; rfl)
                                  refine pure_ (i := 37) (N := some 131) (v := ?_) (a' := ?_) (bA 38 274877906943) rfl rfl (any_of HT_.out (by kernel_rfl)) (fun _ _ _ h => h) (Or.inl ⟨by rfl, ?_⟩) ?_ ?_; rotate_left; (intro w'; go_simp; with_reducible rfl); rotate_left; (simp only [Act.put, setIfInBounds_toArray, set_cons_zero, set_cons_succ, i64_w, i32_w]; rfl)
                                  refine done_ (done_of HT_.out (by kernel_rfl)) ?_
                                  try go_wp2
                                  go_ret
                                  exact ⟨by first | rfl | (simp [errW_none, errW_some] <;> rfl) | (simp [*, errW_none, errW_some] <;> rfl), by repeat (first | (with_reducible first | exact HB.out | apply below_alloc | apply pw_below_drewN | apply below_drew1) | exact HB.out)⟩
                              · rw [if_neg c34] at H
                                exact absurd H (by simp)
                            · rw [if_neg c33] at H
                              exact absurd H (by simp)
                          · rw [if_neg c32] at H
                            exact absurd H (by simp)
                        · rw [if_neg c31] at H
                          have c31b0 : ((wrap64 (((rd_T26 t511 x7_2).f3) - ((rd_T26 t511 x7_2).f2))) == (((rd_T26 t511 x7_2).f1).size : Int)) = false := beq_eq_false_iff_ne.mpr c31
                          have c31b1 : ((wrap64 (((rd_T26 t511 x7_2).f3) - ((rd_T26 t511 x7_2).f2))) != (((rd_T26 t511 x7_2).f1).size : Int)) = true := bne_iff_ne.mpr c31
                          have H' := Aside0.mk H
                          clear H
                          try go_wp2
                          have n0_ := Aside0.mk (Kd.R_drew HO_4.out)
                          have n1_ := Aside0.mk (below_drew1 HB.out)
                          clear HO_4
                          clear HB
                          have HO_4 := n0_
                          have HB := n1_
                          clear n0_ n1_
                          have p525 : 0 ≤ (x7_2 : Int) := of_decide_eq_true (by first | (with_reducible assumption) | assumption)
                          have q525 : x7_2 < (t511.length : Int) := of_decide_eq_true (by first | (with_reducible assumption) | assumption)
                          obtain ⟨ad525, e525, hx525_0, hx525_1, hx525_2, hx525_3, hx525_4⟩ := at_T26 (Kd.R_reads' HO_4.out).2.2 x7_2 p525 q525
                          cases e525
                          replace p525 := eq_true p525
                          replace q525 := eq_true q525
                          have p526 : 0 ≤ (x7_2 : Int) := of_decide_eq_true (by first | (with_reducible assumption) | assumption)
                          have q526 : x7_2 < (t511.length : Int) := of_decide_eq_true (by first | (with_reducible assumption) | assumption)
                          obtain ⟨ad526, e526, hx526_0, hx526_1, hx526_2, hx526_3, hx526_4⟩ := at_T26 (Kd.R_reads' HO_4.out).2.2 x7_2 p526 q526
                          obtain rfl : ad525 = ad526 := (by injection e526)
                          replace p526 := eq_true p526
                          replace q526 := eq_true q526
                          have p527 : 0 ≤ (x7_2 : Int) := of_decide_eq_true (by first | (with_reducible assumption) | assumption)
                          have q527 : x7_2 < (t511.length : Int) := of_decide_eq_true (by first | (with_reducible assumption) | assumption)
                          obtain ⟨ad527, e527, hx527_0, hx527_1, hx527_2, hx527_3, hx527_4⟩ := at_T26 (Kd.R_reads' HO_4.out).2.2 x7_2 p527 q527
                          obtain rfl : ad525 = ad527 := (by injection e527)
                          replace p527 := eq_true p527
                          replace q527 := eq_true q527
                          refine start_ (n := 38) (S := fun w' => w'.cell? (ad525.add ((x7_2).toNat * 5)) = some (.int .i64 ((rd_T26 t511 x7_2).f0)) ∧ w'.cell? ⟨(ad525.add ((x7_2).toNat * 5)).block, (ad525.add ((x7_2).toNat * 5)).off + 1, none⟩ = some (.string ((rd_T26 t511 x7_2).f1)) ∧ w'.cell? ⟨(ad525.add ((x7_2).toNat * 5)).block, (ad525.add ((x7_2).toNat * 5)).off + 2, none⟩ = some (.int .i64 ((rd_T26 t511 x7_2).f2)) ∧ w'.cell? ⟨(ad525.add ((x7_2).toNat * 5)).block, (ad525.add ((x7_2).toNat * 5)).off + 3, none⟩ = some (.int .i64 ((rd_T26 t511 x7_2).f3)) ∧ w'.cell? ⟨(ad525.add ((x7_2).toNat * 5)).block, (ad525.add ((x7_2).toNat * 5)).off + 4, none⟩ = some (.bool ((rd_T26 t511 x7_2).f4)) ∧ w'.cell? (ad525.add ((x7_2).toNat * 5)) = some (.int .i64 ((rd_T26 t511 x7_2).f0)) ∧ w'.cell? ⟨(ad525.add ((x7_2).toNat * 5)).block, (ad525.add ((x7_2).toNat * 5)).off + 1, none⟩ = some (.string ((rd_T26 t511 x7_2).f1)) ∧ w'.cell? ⟨(ad525.add ((x7_2).toNat * 5)).block, (ad525.add ((x7_2).toNat * 5)).off + 2, none⟩ = some (.int .i64 ((rd_T26 t511 x7_2).f2)) ∧ w'.cell? ⟨(ad525.add ((x7_2).toNat * 5)).block, (ad525.add ((x7_2).toNat * 5)).off + 3, none⟩ = some (.int .i64 ((rd_T26 t511 x7_2).f3)) ∧ w'.cell? ⟨(ad525.add ((x7_2).toNat * 5)).block, (ad525.add ((x7_2).toNat * 5)).off + 4, none⟩ = some (.bool ((rd_T26 t511 x7_2).f4)) ∧ w'.cell? (ad525.add ((x7_2).toNat * 5)) = some (.int .i64 ((rd_T26 t511 x7_2).f0)) ∧ w'.cell? ⟨(ad525.add ((x7_2).toNat * 5)).block, (ad525.add ((x7_2).toNat * 5)).off + 1, none⟩ = some (.string ((rd_T26 t511 x7_2).f1)) ∧ w'.cell? ⟨(ad525.add ((x7_2).toNat * 5)).block, (ad525.add ((x7_2).toNat * 5)).off + 2, none⟩ = some (.int .i64 ((rd_T26 t511 x7_2).f2)) ∧ w'.cell? ⟨(ad525.add ((x7_2).toNat * 5)).block, (ad525.add ((x7_2).toNat * 5)).off + 3, none⟩ = some (.int .i64 ((rd_T26 t511 x7_2).f3)) ∧ w'.cell? ⟨(ad525.add ((x7_2).toNat * 5)).block, (ad525.add ((x7_2).toNat * 5)).off + 4, none⟩ = some (.bool ((rd_T26 t511 x7_2).f4))) (ds := []) (bA 38 0) (by kernel_rfl) rfl rfl ⟨hx525_0, hx525_1, hx525_2, hx525_3, hx525_4, hx526_0, hx526_1, hx526_2, hx526_3, hx526_4, hx527_0, hx527_1, hx527_2, hx527_3, hx527_4⟩ (fun hHeld => ?_); refine with_tabW regletlaw02_ScanCovers.tab11 regletlaw02_ScanCovers.bits11 (fun HT_ HW_ => ?_)
                          generalize wc.drew = w38 at HO_4 HB hx525_0 hx525_1 hx525_2 hx525_3 hx525_4 hx526_0 hx526_1 hx526_2 hx526_3 hx526_4 hx527_0 hx527_1 hx527_2 hx527_3 hx527_4 hHeld ⊢
                          refine pure_ (i := 0) (N := some 94) (v := ?_) (a' := ?_) (bA 38 1) rfl rfl (any_of HT_.out (by kernel_rfl)) (fun _ _ _ h => h) (Or.inl ⟨by rfl, ?_⟩) ?_ ?_; rotate_left; (intro w'; go_simp; with_reducible rfl); rotate_left; (simp only [Act.put, setIfInBounds_toArray, set_cons_zero, set_cons_succ, i64_w, i32_w]; rfl)
                          refine pure_ (i := 1) (N := some 95) (v := ?_) (a' := ?_) (bA 38 3) rfl rfl (any_of HT_.out (by kernel_rfl)) (fun _ _ _ h => h) (Or.inl ⟨by rfl, ?_⟩) ?_ ?_; rotate_left; (intro w'; go_simp; with_reducible rfl); rotate_left; (simp only [Act.put, setIfInBounds_toArray, set_cons_zero, set_cons_succ, i64_w, i32_w]; rfl)
                          refine pure_ (i := 2) (N := some 96) (v := ?_) (a' := ?_) (bA 38 7) rfl rfl (any_of HT_.out (by kernel_rfl)) (fun _ _ _ h => h) (Or.inl ⟨by rfl, ?_⟩) ?_ ?_; rotate_left; (intro w'; go_simp; with_reducible rfl); rotate_left; (simp only [Act.put, setIfInBounds_toArray, set_cons_zero, set_cons_succ, i64_w, i32_w]; rfl)
                          refine pure_ (i := 3) (N := some 97) (v := ?_) (a' := ?_) (bA 38 15) rfl rfl (any_of HT_.out (by kernel_rfl)) (fun _ _ _ h => h) (Or.inl ⟨by rfl, ?_⟩) ?_ ?_; rotate_left; (intro w'; go_simp; with_reducible rfl); rotate_left; (simp only [Act.put, setIfInBounds_toArray, set_cons_zero, set_cons_succ, i64_w, i32_w]; rfl)
                          refine pure_ (i := 5) (N := some 99) (v := ?_) (a' := ?_) (bA 38 47) rfl rfl (any_of HT_.out (by kernel_rfl)) (fun _ _ _ h => h) (Or.inl ⟨by rfl, ?_⟩) ?_ ?_; rotate_left; (intro w'; go_simp; with_reducible rfl); rotate_left; (simp only [Act.put, setIfInBounds_toArray, set_cons_zero, set_cons_succ, i64_w, i32_w]; rfl)
                          refine pure_ (i := 6) (N := some 100) (v := ?_) (a' := ?_) (bA 38 111) rfl rfl (any_of HT_.out (by kernel_rfl)) (fun _ _ _ h => h) (Or.inl ⟨by rfl, ?_⟩) ?_ ?_; rotate_left; (intro w'; go_simp; with_reducible rfl); rotate_left; (simp only [Act.put, setIfInBounds_toArray, set_cons_zero, set_cons_succ, i64_w, i32_w]; rfl)
                          refine pure_ (i := 7) (N := some 101) (v := ?_) (a' := ?_) (bA 38 239) rfl rfl (any_of HT_.out (by kernel_rfl)) (fun _ _ _ h => h) (Or.inl ⟨by rfl, ?_⟩) ?_ ?_; rotate_left; (intro w'; go_simp; with_reducible rfl); rotate_left; (simp only [Act.put, setIfInBounds_toArray, set_cons_zero, set_cons_succ, i64_w, i32_w]; rfl)
                          refine pure_ (i := 8) (N := some 102) (v := ?_) (a' := ?_) (bA 38 495) rfl rfl (any_of HT_.out (by kernel_rfl)) (fun _ _ _ h => h) (Or.inl ⟨by rfl, ?_⟩) ?_ ?_; rotate_left; (intro w'; go_simp; with_reducible rfl); rotate_left; (simp only [Act.put, setIfInBounds_toArray, set_cons_zero, set_cons_succ, i64_w, i32_w]; rfl)
                          refine pure_ (i := 11) (N := some 105) (v := ?_) (a' := ?_) (bA 38 2543) rfl rfl (any_of HT_.out (by kernel_rfl)) (fun _ _ _ h => h) (Or.inl ⟨by rfl, ?_⟩) ?_ ?_; rotate_left; (intro w'; go_simp; with_reducible rfl); rotate_left; (simp only [Act.put, setIfInBounds_toArray, set_cons_zero, set_cons_succ, i64_w, i32_w]; rfl)
                          refine pure_ (i := 12) (N := some 106) (v := ?_) (a' := ?_) (bA 38 6639) rfl rfl (any_of HT_.out (by kernel_rfl)) (fun _ _ _ h => h) (Or.inl ⟨by rfl, ?_⟩) ?_ ?_; rotate_left; (intro w'; go_simp; with_reducible rfl); rotate_left; (simp only [Act.put, setIfInBounds_toArray, set_cons_zero, set_cons_succ, i64_w, i32_w]; rfl)
                          refine pure_ (i := 13) (N := some 107) (v := ?_) (a' := ?_) (bA 38 14831) rfl rfl (any_of HT_.out (by kernel_rfl)) (fun _ _ _ h => h) (Or.inl ⟨by rfl, ?_⟩) ?_ ?_; rotate_left; (intro w'; go_simp; with_reducible rfl); rotate_left; (simp only [Act.put, setIfInBounds_toArray, set_cons_zero, set_cons_succ, i64_w, i32_w]; rfl)
                          refine pure_ (i := 14) (N := some 108) (v := ?_) (a' := ?_) (bA 38 31215) rfl rfl (any_of HT_.out (by kernel_rfl)) (fun _ _ _ h => h) (Or.inl ⟨by rfl, ?_⟩) ?_ ?_; rotate_left; (intro w'; go_simp; with_reducible rfl); rotate_left; (simp only [Act.put, setIfInBounds_toArray, set_cons_zero, set_cons_succ, i64_w, i32_w]; rfl)
                          refine take_ (i := 4) (N := some 98) (v := ?_) (a' := ?_) (bA 38 31231) rfl rfl (take_ofW HT_.out HW_.out (by kernel_rfl)) (fun _ _ _ h => h) (Or.inl ⟨by rfl, ?_⟩) hHeld ?_ ?_; rotate_left; (rintro w' ⟨s0, s1, s2, s3, s4, s5, s6, s7, s8, s9, s10, s11, s12, s13, s14⟩; go_simp; with_reducible rfl); rotate_left; (simp only [Act.put, setIfInBounds_toArray, set_cons_zero, set_cons_succ, i64_w, i32_w]; rfl)
                          refine take_ (i := 9) (N := some 103) (v := ?_) (a' := ?_) (bA 38 31743) rfl rfl (take_ofW HT_.out HW_.out (by kernel_rfl)) (fun _ _ _ h => h) (Or.inl ⟨by rfl, ?_⟩) hHeld ?_ ?_; rotate_left; (rintro w' ⟨s0, s1, s2, s3, s4, s5, s6, s7, s8, s9, s10, s11, s12, s13, s14⟩; go_simp; with_reducible rfl); rotate_left; (simp only [Act.put, setIfInBounds_toArray, set_cons_zero, set_cons_succ, i64_w, i32_w]; rfl)
                          refine pure_ (i := 10) (N := some 104) (v := ?_) (a' := ?_) (bA 38 32767) rfl rfl (any_of HT_.out (by kernel_rfl)) (fun _ _ _ h => h) (Or.inl ⟨by rfl, ?_⟩) ?_ ?_; rotate_left; (intro w'; go_simp; with_reducible rfl); rotate_left; (simp only [Act.put, setIfInBounds_toArray, set_cons_zero, set_cons_succ, i64_w, i32_w]; rfl)
                          refine take_ (i := 15) (N := some 109) (v := ?_) (a' := ?_) (bA 38 65535) rfl rfl (take_ofW HT_.out HW_.out (by kernel_rfl)) (fun _ _ _ h => h) (Or.inl ⟨by rfl, ?_⟩) hHeld ?_ ?_; rotate_left; (rintro w' ⟨s0, s1, s2, s3, s4, s5, s6, s7, s8, s9, s10, s11, s12, s13, s14⟩; go_simp; with_reducible rfl); rotate_left; (simp only [Act.put, setIfInBounds_toArray, set_cons_zero, set_cons_succ, i64_w, i32_w]; rfl)
                          refine pure_ (i := 16) (N := some 110) (v := ?_) (a' := ?_) (bA 38 131071) rfl rfl (any_of HT_.out (by kernel_rfl)) (fun _ _ _ h => h) (Or.inl ⟨by rfl, ?_⟩) ?_ ?_; rotate_left; (intro w'; go_simp; with_reducible rfl); rotate_left; (simp only [Act.put, setIfInBounds_toArray, set_cons_zero, set_cons_succ, i64_w, i32_w]; rfl)
                          refine pure_ (i := 17) (N := some 111) (v := ?_) (a' := ?_) (bA 38 262143) rfl rfl (any_of HT_.out (by kernel_rfl)) (fun _ _ _ h => h) (Or.inl ⟨by rfl, ?_⟩) ?_ ?_; rotate_left; (intro w'; go_simp; with_reducible rfl); rotate_left; (simp only [Act.put, setIfInBounds_toArray, set_cons_zero, set_cons_succ, i64_w, i32_w]; rfl)
                          refine pure_ (i := 18) (N := some 112) (v := ?_) (a' := ?_) (bA 38 524287) rfl rfl (any_of HT_.out (by kernel_rfl)) (fun _ _ _ h => h) (Or.inl ⟨by rfl, ?_⟩) ?_ ?_; rotate_left; (intro w'; go_simp; with_reducible rfl); rotate_left; (simp only [Act.put, setIfInBounds_toArray, set_cons_zero, set_cons_succ, i64_w, i32_w]; rfl)
                          refine pure_ (i := 19) (N := some 113) (v := undef) (a' := ?_) (bA 38 1048575) rfl rfl (any_of HT_.out (by kernel_rfl)) (fun _ _ _ h => h) (Or.inr ⟨by rfl, rfl⟩) ?_ ?_; rotate_left; (simp only [Act.put, setIfInBounds_toArray, set_cons_zero, set_cons_succ, i64_w, i32_w]; rfl)
                          refine pure_ (i := 20) (N := some 114) (v := undef) (a' := ?_) (bA 38 2097151) rfl rfl (any_of HT_.out (by kernel_rfl)) (fun _ _ _ h => h) (Or.inr ⟨by rfl, rfl⟩) ?_ ?_; rotate_left; (simp only [Act.put, setIfInBounds_toArray, set_cons_zero, set_cons_succ, i64_w, i32_w]; rfl)
                          refine pure_ (i := 21) (N := some 115) (v := undef) (a' := ?_) (bA 38 4194303) rfl rfl (any_of HT_.out (by kernel_rfl)) (fun _ _ _ h => h) (Or.inr ⟨by rfl, rfl⟩) ?_ ?_; rotate_left; (simp only [Act.put, setIfInBounds_toArray, set_cons_zero, set_cons_succ, i64_w, i32_w]; rfl)
                          refine pure_ (i := 22) (N := some 116) (v := undef) (a' := ?_) (bA 38 8388607) rfl rfl (any_of HT_.out (by kernel_rfl)) (fun _ _ _ h => h) (Or.inr ⟨by rfl, rfl⟩) ?_ ?_; rotate_left; (simp only [Act.put, setIfInBounds_toArray, set_cons_zero, set_cons_succ, i64_w, i32_w]; rfl)
                          refine pure_ (i := 23) (N := some 117) (v := undef) (a' := ?_) (bA 38 16777215) rfl rfl (any_of HT_.out (by kernel_rfl)) (fun _ _ _ h => h) (Or.inr ⟨by rfl, rfl⟩) ?_ ?_; rotate_left; (simp only [Act.put, setIfInBounds_toArray, set_cons_zero, set_cons_succ, i64_w, i32_w]; rfl)
                          refine pure_ (i := 24) (N := some 118) (v := undef) (a' := ?_) (bA 38 33554431) rfl rfl (any_of HT_.out (by kernel_rfl)) (fun _ _ _ h => h) (Or.inr ⟨by rfl, rfl⟩) ?_ ?_; rotate_left; (simp only [Act.put, setIfInBounds_toArray, set_cons_zero, set_cons_succ, i64_w, i32_w]; rfl)
                          refine pure_ (i := 25) (N := some 119) (v := undef) (a' := ?_) (bA 38 67108863) rfl rfl (any_of HT_.out (by kernel_rfl)) (fun _ _ _ h => h) (Or.inr ⟨by rfl, rfl⟩) ?_ ?_; rotate_left; (simp only [Act.put, setIfInBounds_toArray, set_cons_zero, set_cons_succ, i64_w, i32_w]; rfl)
                          refine pure_ (i := 26) (N := some 120) (v := undef) (a' := ?_) (bA 38 134217727) rfl rfl (any_of HT_.out (by kernel_rfl)) (fun _ _ _ h => h) (Or.inr ⟨by rfl, rfl⟩) ?_ ?_; rotate_left; (simp only [Act.put, setIfInBounds_toArray, set_cons_zero, set_cons_succ, i64_w, i32_w]; rfl)
                          refine pure_ (i := 27) (N := some 121) (v := undef) (a' := ?_) (bA 38 268435455) rfl rfl (any_of HT_.out (by kernel_rfl)) (fun _ _ _ h => h) (Or.inr ⟨by rfl, rfl⟩) ?_ ?_; rotate_left; (simp only [Act.put, setIfInBounds_toArray, set_cons_zero, set_cons_succ, i64_w, i32_w]; rfl)
                          refine pure_ (i := 28) (N := some 122) (v := undef) (a' := ?_) (bA 38 536870911) rfl rfl (any_of HT_.out (by kernel_rfl)) (fun _ _ _ h => h) (Or.inr ⟨by rfl, rfl⟩) ?_ ?_; rotate_left; (simp only [Act.put, setIfInBounds_toArray, set_cons_zero, set_cons_succ, i64_w, i32_w]; rfl)
                          refine pure_ (i := 29) (N := some 123) (v := undef) (a' := ?_) (bA 38 1073741823) rfl rfl (any_of HT_.out (by kernel_rfl)) (fun _ _ _ h => h) (Or.inr ⟨by rfl, rfl⟩) ?_ ?_; rotate_left; (simp only [Act.put, setIfInBounds_toArray, set_cons_zero, set_cons_succ, i64_w, i32_w]; rfl)
                          refine pure_ (i := 30) (N := some 124) (v := undef) (a' := ?_) (bA 38 2147483647) rfl rfl (any_of HT_.out (by kernel_rfl)) (fun _ _ _ h => h) (Or.inr ⟨by rfl, rfl⟩) ?_ ?_; rotate_left; (simp only [Act.put, setIfInBounds_toArray, set_cons_zero, set_cons_succ, i64_w, i32_w]; rfl)
                          refine pure_ (i := 31) (N := some 125) (v := undef) (a' := ?_) (bA 38 4294967295) rfl rfl (any_of HT_.out (by kernel_rfl)) (fun _ _ _ h => h) (Or.inr ⟨by rfl, rfl⟩) ?_ ?_; rotate_left; (simp only [Act.put, setIfInBounds_toArray, set_cons_zero, set_cons_succ, i64_w, i32_w]; rfl)
                          refine pure_ (i := 32) (N := some 126) (v := undef) (a' := ?_) (bA 38 8589934591) rfl rfl (any_of HT_.out (by kernel_rfl)) (fun _ _ _ h => h) (Or.inr ⟨by rfl, rfl⟩) ?_ ?_; rotate_left; (simp only [Act.put, setIfInBounds_toArray, set_cons_zero, set_cons_succ, i64_w, i32_w]; rfl)
                          refine pure_ (i := 33) (N := some 127) (v := undef) (a' := ?_) (bA 38 17179869183) rfl rfl (any_of HT_.out (by kernel_rfl)) (fun _ _ _ h => h) (Or.inr ⟨by rfl, rfl⟩) ?_ ?_; rotate_left; (simp only [Act.put, setIfInBounds_toArray, set_cons_zero, set_cons_succ, i64_w, i32_w]; rfl)
                          refine pure_ (i := 34) (N := some 128) (v := undef) (a' := ?_) (bA 38 34359738367) rfl rfl (any_of HT_.out (by kernel_rfl)) (fun _ _ _ h => h) (Or.inr ⟨by rfl, rfl⟩) ?_ ?_; rotate_left; (simp only [Act.put, setIfInBounds_toArray, set_cons_zero, set_cons_succ, i64_w, i32_w]; rfl)
                          refine pure_ (i := 35) (N := some 129) (v := undef) (a' := ?_) (bA 38 68719476735) rfl rfl (any_of HT_.out (by kernel_rfl)) (fun _ _ _ h => h) (Or.inr ⟨by rfl, rfl⟩) ?_ ?_; rotate_left; (simp only [Act.put, setIfInBounds_toArray, set_cons_zero, set_cons_succ, i64_w, i32_w]; rfl)
                          refine pure_ (i := 36) (N := some 130) (v := undef) (a' := ?_) (bA 38 137438953471) rfl rfl (any_of HT_.out (by kernel_rfl)) (fun _ _ _ h => h) (Or.inr ⟨by rfl, rfl⟩) ?_ ?_; rotate_left; (simp only [Act.put, setIfInBounds_toArray, set_cons_zero, set_cons_succ, i64_w, i32_w]; rfl)
                          refine pure_ (i := 37) (N := some 131) (v := ?_) (a' := ?_) (bA 38 274877906943) rfl rfl (any_of HT_.out (by kernel_rfl)) (fun _ _ _ h => h) (Or.inl ⟨by rfl, ?_⟩) ?_ ?_; rotate_left; (intro w'; go_simp; with_reducible rfl); rotate_left; (simp only [Act.put, setIfInBounds_toArray, set_cons_zero, set_cons_succ, i64_w, i32_w]; rfl)
                          refine done_ (done_of HT_.out (by kernel_rfl)) ?_
                          have p532 : 0 ≤ (x7_2 : Int) := of_decide_eq_true (by first | (with_reducible assumption) | assumption)
                          have q532 : x7_2 < (t511.length : Int) := of_decide_eq_true (by first | (with_reducible assumption) | assumption)
                          obtain ⟨ad532, e532, hx532_0, hx532_1, hx532_2, hx532_3, hx532_4⟩ := at_T26 (Kd.R_reads' HO_4.out).2.2 x7_2 p532 q532
                          obtain rfl : ad525 = ad532 := (by injection e532)
                          replace p532 := eq_true p532
                          replace q532 := eq_true q532
                          try go_wp2
                          go_roundg kj11
                          case measure => have := HJ3.out; have := HK2.out; have := HJ11.out; omega
                          case rel => exact ⟨((rd_T26 t511 x7_2).f3), (wrap64 (x7_2 + 1)), (by first | rfl | (simp; done) | (simp [*]; done)), (by first | rfl | (simp; done) | (simp [*]; done)), H', ⟨by have := HJ3.out; have := HK2.out; have := HJ11.out; omega⟩, ⟨by (with_reducible repeat (first | apply Kd.R_alloc | apply Kd.R_drewN | apply Kd.R_drew)); exact HO_4.out⟩, ⟨by repeat (first | (with_reducible first | exact HB.out | apply below_alloc | apply pw_below_drewN | apply below_drew1) | exact HB.out)⟩⟩
                      · rw [if_neg c30] at H
                        exact absurd H (by simp)
                    · rw [if_neg c29] at H
                      exact absurd H (by simp)
            · rw [if_neg c11] at H
              have c11b0 : decide (x7_2 < (t511.length : Int)) = false := decide_eq_false c11
              clear c11
              by_cases c39 : 0 ≤ x6_2
              · rw [if_pos c39] at H
                have c39b0 := eq_true c39
                have c39b1 : decide (0 ≤ x6_2) = true := decide_eq_true c39
                clear c39
                by_cases c40 : x6_2 ≤ (a0.size : Int)
                · rw [if_pos c40] at H
                  have c40b0 := eq_true c40
                  have c40b1 : decide (x6_2 ≤ (a0.size : Int)) = true := decide_eq_true c40
                  clear c40
                  replace H := Option.bind_eq_some_iff.mp H
                  obtain ⟨t515, A410, H⟩ := H
                  replace H : (if t515 = true then (some t510) else (some false)) = some r := H
                  have A41 := Aside0.mk A410
                  clear A410
                  by_cases c42 : t515 = true
                  · subst c42
                    have H1 : (some t510) = some r := by rw [if_pos rfl] at H; exact H
                    clear H
                    have H := H1
                    clear H1
                    obtain rfl := Option.some.inj H
                    obtain ⟨Ao43, co43, eo43⟩ := Kd.R_slice HO_4.out
                    subst eo43
                    go_wp2_with (first | ((with_reducible refine gate_callee (f := 57) rfl ?_); refine goesL_ (some 140) rfl rfl Try.func57 (by kernel_rfl) rfl #[.string (a0.extract (x6_2 : Int).toNat a0.size)] rfl (by (try simp only [List.map_toArray, List.map_cons, List.map_nil]); first | done | rfl | (simp only [List.length_drop, List.length_take]; rfl)) ?_; (with_reducible refine (regletlaw02_spliced.calls k2 (a0.extract (x6_2 : Int).toNat a0.size) true _ A41.out).mono ?_); rintro e w' ⟨rfl, ⟨nd, rfl⟩⟩; refine ⟨_, rfl, ?_⟩))
                    go_ret
                    exact ⟨by first | rfl | (simp [errW_none, errW_some] <;> rfl) | (simp [*, errW_none, errW_some] <;> rfl), by repeat (first | (with_reducible first | exact HB.out | apply below_alloc | apply pw_below_drewN | apply below_drew1) | exact HB.out)⟩
                  · replace c42 := Bool.eq_false_iff.mpr c42
                    subst c42
                    have H1 : (some false) = some r := by rw [if_neg (show ¬ (false = true) by decide)] at H; exact H
                    clear H
                    have H := H1
                    clear H1
                    obtain rfl := Option.some.inj H
                    obtain ⟨Ao44, co44, eo44⟩ := Kd.R_slice HO_4.out
                    subst eo44
                    go_wp2_with (first | ((with_reducible refine gate_callee (f := 57) rfl ?_); refine goesL_ (some 140) rfl rfl Try.func57 (by kernel_rfl) rfl #[.string (a0.extract (x6_2 : Int).toNat a0.size)] rfl (by (try simp only [List.map_toArray, List.map_cons, List.map_nil]); first | done | rfl | (simp only [List.length_drop, List.length_take]; rfl)) ?_; (with_reducible refine (regletlaw02_spliced.calls k2 (a0.extract (x6_2 : Int).toNat a0.size) false _ A41.out).mono ?_); rintro e w' ⟨rfl, ⟨nd, rfl⟩⟩; refine ⟨_, rfl, ?_⟩))
                    go_ret
                    exact ⟨by first | rfl | (simp [errW_none, errW_some] <;> rfl) | (simp [*, errW_none, errW_some] <;> rfl), by repeat (first | (with_reducible first | exact HB.out | apply below_alloc | apply pw_below_drewN | apply below_drew1) | exact HB.out)⟩
                · rw [if_neg c40] at H
                  exact absurd H (by simp)
              · rw [if_neg c39] at H
                exact absurd H (by simp)

/-- THE ONE PURE STATEMENT of regletlaw02_ScanCovers: yours. -/
def regletlaw02_ScanCovers.Pure : Prop := ∀ (a0 : ByteArray), a0.size ≤ 140737488351232 → ∃ k, regletlaw02_ScanCovers.f k a0 = some true
theorem regletlaw02_ScanCovers.walk (P : regletlaw02_ScanCovers.Pure) (a0 : ByteArray) (w : World) (w0 : a0.size ≤ 140737488351232) (HM : HasMax w) :
    Calls Try.prog 14 #[.string a0] w fun e w' => e = .returned (.bool true) ∧ Below w.heap.size w w' := by
  obtain ⟨k, h⟩ := P a0 w0
  refine (regletlaw02_ScanCovers.calls k a0 true w h).mono ?_
  rintro e w' ⟨rfl, hd⟩
  exact ⟨rfl, hd⟩

end Go.Proofs.Ytonfmnohmigjpaa.P
