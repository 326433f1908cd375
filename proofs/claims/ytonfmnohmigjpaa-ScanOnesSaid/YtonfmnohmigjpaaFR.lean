-- Written by wip/pr.py (the kit's printer, driven for functions that are proved by hand beside it), and put together by wip/mg.py.
import Derived.Test.YtonfmnohmigjpaaK0
namespace Go.Proofs.Ytonfmnohmigjpaa.P
open Go.RowKit Go.Proofs.YtonfmnohmigjpaaW.PrintWords Go.Proofs.YtonfmnohmigjpaaW.PrintLast
set_option linter.unusedVariables false
set_option linter.unusedSimpArgs false

/-! ### regletref02_letter: function 144 -/
def regletref02_letter.f (a0 : Int) : Option (Bool) := if a0 = 95 then (some true) else (if a0 ≥ 97 then (if a0 ≤ 122 then (some true) else (if a0 ≥ 65 then (some (decide (a0 ≤ 90))) else (some false))) else (if a0 ≥ 65 then (some (decide (a0 ≤ 90))) else (some false)))
set_option maxHeartbeats 8000000 in
set_option maxRecDepth 100000 in
theorem regletref02_letter.calls (a0 : Int) (r : Bool) (w : World) (h : regletref02_letter.f a0 = some r) :
    Calls Try.prog 144 #[.int .u8 a0] w fun e w' => e = .returned (.bool r) ∧ Drawn0 w w' := by
  have H : (if a0 = 95 then (some true) else (if a0 ≥ 97 then (if a0 ≤ 122 then (some true) else (if a0 ≥ 65 then (some (decide (a0 ≤ 90))) else (some false))) else (if a0 ≥ 65 then (some (decide (a0 ≤ 90))) else (some false)))) = some r := h
  clear h
  by_cases c2 : a0 = 95
  · rw [if_pos c2] at H
    have c2b0 : (a0 == 95) = true := beq_iff_eq.mpr c2
    have c2b1 : (a0 != 95) = false := bne_eq_false_iff_eq.mpr c2
    clear c2
    obtain rfl := Option.some.inj H
    go_enter Try.func144, Try.ntmps144
    go_wp2
    go_ret
    exact ⟨by first | rfl | (simp; done) | (simp [*]; done), by repeat (first | exact Drawn0.refl _ | apply Drawn0.step)⟩
  · rw [if_neg c2] at H
    have c2b0 : (a0 == 95) = false := beq_eq_false_iff_ne.mpr c2
    have c2b1 : (a0 != 95) = true := bne_iff_ne.mpr c2
    by_cases c3 : a0 ≥ 97
    · rw [if_pos c3] at H
      have c3b0 : decide (97 ≤ a0) = true := decide_eq_true c3
      clear c3
      by_cases c4 : a0 ≤ 122
      · rw [if_pos c4] at H
        have c4b0 : decide (a0 ≤ 122) = true := decide_eq_true c4
        clear c4
        obtain rfl := Option.some.inj H
        go_enter Try.func144, Try.ntmps144
        go_wp2
        go_ret
        exact ⟨by first | rfl | (simp; done) | (simp [*]; done), by repeat (first | exact Drawn0.refl _ | apply Drawn0.step)⟩
      · rw [if_neg c4] at H
        have c4b0 : decide (a0 ≤ 122) = false := decide_eq_false c4
        clear c4
        by_cases c5 : a0 ≥ 65
        · rw [if_pos c5] at H
          have c5b0 : decide (65 ≤ a0) = true := decide_eq_true c5
          clear c5
          obtain rfl := Option.some.inj H
          go_enter Try.func144, Try.ntmps144
          go_wp2
          go_ret
          exact ⟨by first | rfl | (simp; done) | (simp [*]; done), by repeat (first | exact Drawn0.refl _ | apply Drawn0.step)⟩
        · rw [if_neg c5] at H
          have c5b0 : decide (65 ≤ a0) = false := decide_eq_false c5
          clear c5
          obtain rfl := Option.some.inj H
          go_enter Try.func144, Try.ntmps144
          go_wp2
          go_ret
          exact ⟨by first | rfl | (simp; done) | (simp [*]; done), by repeat (first | exact Drawn0.refl _ | apply Drawn0.step)⟩
    · rw [if_neg c3] at H
      have c3b0 : decide (97 ≤ a0) = false := decide_eq_false c3
      clear c3
      by_cases c6 : a0 ≥ 65
      · rw [if_pos c6] at H
        have c6b0 : decide (65 ≤ a0) = true := decide_eq_true c6
        clear c6
        obtain rfl := Option.some.inj H
        go_enter Try.func144, Try.ntmps144
        go_wp2
        go_ret
        exact ⟨by first | rfl | (simp; done) | (simp [*]; done), by repeat (first | exact Drawn0.refl _ | apply Drawn0.step)⟩
      · rw [if_neg c6] at H
        have c6b0 : decide (65 ≤ a0) = false := decide_eq_false c6
        clear c6
        obtain rfl := Option.some.inj H
        go_enter Try.func144, Try.ntmps144
        go_wp2
        go_ret
        exact ⟨by first | rfl | (simp; done) | (simp [*]; done), by repeat (first | exact Drawn0.refl _ | apply Drawn0.step)⟩

end Go.Proofs.Ytonfmnohmigjpaa.P
namespace Go.Proofs.Ytonfmnohmigjpaa.P
open Go.RowKit Go.Proofs.YtonfmnohmigjpaaW.PrintWords Go.Proofs.YtonfmnohmigjpaaW.PrintLast
set_option linter.unusedVariables false
set_option linter.unusedSimpArgs false

/-! ### regletref02_digit: function 145 -/
def regletref02_digit.f (a0 : Int) : Option (Bool) := if a0 ≥ 48 then (some (decide (a0 ≤ 57))) else (some false)
set_option maxHeartbeats 8000000 in
set_option maxRecDepth 100000 in
theorem regletref02_digit.calls (a0 : Int) (r : Bool) (w : World) (h : regletref02_digit.f a0 = some r) :
    Calls Try.prog 145 #[.int .u8 a0] w fun e w' => e = .returned (.bool r) ∧ Drawn0 w w' := by
  have H : (if a0 ≥ 48 then (some (decide (a0 ≤ 57))) else (some false)) = some r := h
  clear h
  by_cases c2 : a0 ≥ 48
  · rw [if_pos c2] at H
    have c2b0 : decide (48 ≤ a0) = true := decide_eq_true c2
    clear c2
    obtain rfl := Option.some.inj H
    go_enter Try.func145, Try.ntmps145
    go_wp2
    go_ret
    exact ⟨by first | rfl | (simp; done) | (simp [*]; done), by repeat (first | exact Drawn0.refl _ | apply Drawn0.step)⟩
  · rw [if_neg c2] at H
    have c2b0 : decide (48 ≤ a0) = false := decide_eq_false c2
    clear c2
    obtain rfl := Option.some.inj H
    go_enter Try.func145, Try.ntmps145
    go_wp2
    go_ret
    exact ⟨by first | rfl | (simp; done) | (simp [*]; done), by repeat (first | exact Drawn0.refl _ | apply Drawn0.step)⟩

end Go.Proofs.Ytonfmnohmigjpaa.P
namespace Go.Proofs.Ytonfmnohmigjpaa.P
open Go.RowKit Go.Proofs.YtonfmnohmigjpaaW.PrintWords Go.Proofs.YtonfmnohmigjpaaW.PrintLast
set_option linter.unusedVariables false
set_option linter.unusedSimpArgs false

/-! ### regletref02_sign: function 146 -/
def regletref02_sign.f (a0 : Int) : Option (Bool) := if a0 = 43 then (some true) else (some (a0 == 45))
set_option maxHeartbeats 8000000 in
set_option maxRecDepth 100000 in
theorem regletref02_sign.calls (a0 : Int) (r : Bool) (w : World) (h : regletref02_sign.f a0 = some r) :
    Calls Try.prog 146 #[.int .u8 a0] w fun e w' => e = .returned (.bool r) ∧ Drawn0 w w' := by
  have H : (if a0 = 43 then (some true) else (some (a0 == 45))) = some r := h
  clear h
  by_cases c2 : a0 = 43
  · rw [if_pos c2] at H
    have c2b0 : (a0 == 43) = true := beq_iff_eq.mpr c2
    have c2b1 : (a0 != 43) = false := bne_eq_false_iff_eq.mpr c2
    clear c2
    obtain rfl := Option.some.inj H
    go_enter Try.func146, Try.ntmps146
    go_wp2
    go_ret
    exact ⟨by first | rfl | (simp; done) | (simp [*]; done), by repeat (first | exact Drawn0.refl _ | apply Drawn0.step)⟩
  · rw [if_neg c2] at H
    have c2b0 : (a0 == 43) = false := beq_eq_false_iff_ne.mpr c2
    have c2b1 : (a0 != 43) = true := bne_iff_ne.mpr c2
    obtain rfl := Option.some.inj H
    go_enter Try.func146, Try.ntmps146
    go_wp2
    go_ret
    exact ⟨by first | rfl | (simp; done) | (simp [*]; done), by repeat (first | exact Drawn0.refl _ | apply Drawn0.step)⟩

end Go.Proofs.Ytonfmnohmigjpaa.P
namespace Go.Proofs.Ytonfmnohmigjpaa.P
open Go.RowKit Go.Proofs.YtonfmnohmigjpaaW.PrintWords Go.Proofs.YtonfmnohmigjpaaW.PrintLast
set_option linter.unusedVariables false
set_option linter.unusedSimpArgs false

/-! ### regletref02_expo: function 147 -/
def regletref02_expo.f (a0 : Int) : Option (Bool) := if a0 = 101 then (some true) else (if a0 = 69 then (some true) else (if a0 = 112 then (some true) else (some (a0 == 80))))
set_option maxHeartbeats 8000000 in
set_option maxRecDepth 100000 in
theorem regletref02_expo.calls (a0 : Int) (r : Bool) (w : World) (h : regletref02_expo.f a0 = some r) :
    Calls Try.prog 147 #[.int .u8 a0] w fun e w' => e = .returned (.bool r) ∧ Drawn0 w w' := by
  have H : (if a0 = 101 then (some true) else (if a0 = 69 then (some true) else (if a0 = 112 then (some true) else (some (a0 == 80))))) = some r := h
  clear h
  by_cases c2 : a0 = 101
  · rw [if_pos c2] at H
    have c2b0 : (a0 == 101) = true := beq_iff_eq.mpr c2
    have c2b1 : (a0 != 101) = false := bne_eq_false_iff_eq.mpr c2
    clear c2
    obtain rfl := Option.some.inj H
    go_enter Try.func147, Try.ntmps147
    go_wp2
    go_ret
    exact ⟨by first | rfl | (simp; done) | (simp [*]; done), by repeat (first | exact Drawn0.refl _ | apply Drawn0.step)⟩
  · rw [if_neg c2] at H
    have c2b0 : (a0 == 101) = false := beq_eq_false_iff_ne.mpr c2
    have c2b1 : (a0 != 101) = true := bne_iff_ne.mpr c2
    by_cases c3 : a0 = 69
    · rw [if_pos c3] at H
      have c3b0 : (a0 == 69) = true := beq_iff_eq.mpr c3
      have c3b1 : (a0 != 69) = false := bne_eq_false_iff_eq.mpr c3
      clear c3
      obtain rfl := Option.some.inj H
      go_enter Try.func147, Try.ntmps147
      go_wp2
      go_ret
      exact ⟨by first | rfl | (simp; done) | (simp [*]; done), by repeat (first | exact Drawn0.refl _ | apply Drawn0.step)⟩
    · rw [if_neg c3] at H
      have c3b0 : (a0 == 69) = false := beq_eq_false_iff_ne.mpr c3
      have c3b1 : (a0 != 69) = true := bne_iff_ne.mpr c3
      by_cases c4 : a0 = 112
      · rw [if_pos c4] at H
        have c4b0 : (a0 == 112) = true := beq_iff_eq.mpr c4
        have c4b1 : (a0 != 112) = false := bne_eq_false_iff_eq.mpr c4
        clear c4
        obtain rfl := Option.some.inj H
        go_enter Try.func147, Try.ntmps147
        go_wp2
        go_ret
        exact ⟨by first | rfl | (simp; done) | (simp [*]; done), by repeat (first | exact Drawn0.refl _ | apply Drawn0.step)⟩
      · rw [if_neg c4] at H
        have c4b0 : (a0 == 112) = false := beq_eq_false_iff_ne.mpr c4
        have c4b1 : (a0 != 112) = true := bne_iff_ne.mpr c4
        obtain rfl := Option.some.inj H
        go_enter Try.func147, Try.ntmps147
        go_wp2
        go_ret
        exact ⟨by first | rfl | (simp; done) | (simp [*]; done), by repeat (first | exact Drawn0.refl _ | apply Drawn0.step)⟩

end Go.Proofs.Ytonfmnohmigjpaa.P
namespace Go.Proofs.Ytonfmnohmigjpaa.P
open Go.RowKit Go.Proofs.YtonfmnohmigjpaaW.PrintWords Go.Proofs.YtonfmnohmigjpaaW.PrintLast
set_option linter.unusedVariables false
set_option linter.unusedSimpArgs false

/-! ### regletref02_pieces: function 148 -/
mutual
def regletref02_pieces.l0 : Nat → ByteArray → Int → Int → Option (Bool)
  | 0, _, _, _ => none
  | k + 1, x0, x1, x5 => if x5 < (x0.size : Int) then (if 0 ≤ x5 then (if (bt x0 x5) = x1 then (regletref02_pieces.j1 k x0 x1 x5 true) else (regletref02_pieces.j1 k x0 x1 x5 ((bt x0 x5) == 10))) else (none)) else (some true)
def regletref02_pieces.j1 : Nat → ByteArray → Int → Int → Bool → Option (Bool)
  | 0, _, _, _, _ => none
  | k + 1, x0, x1, x5, x20 => if x20 = true then (some false) else (if 0 ≤ x5 then (if x5 < (x0.size : Int) then (if (bt x0 x5) = 92 then (if (wrap64 (x5 + 1)) = (x0.size : Int) then (some false) else (if 0 ≤ (wrap64 (x5 + 1)) then (if (wrap64 (x5 + 1)) < (x0.size : Int) then (if (bt x0 (wrap64 (x5 + 1))) = 10 then (some false) else (regletref02_pieces.l0 k x0 x1 (wrap64 ((wrap64 (x5 + 1)) + 1)))) else (none)) else (none))) else (regletref02_pieces.l0 k x0 x1 (wrap64 (x5 + 1)))) else (none)) else (none))
end
def regletref02_pieces.f (k : Nat) (a0 : ByteArray) (a1 : Int) : Option (Bool) := regletref02_pieces.l0 k a0 a1 0
theorem regletref02_pieces.mono_l : ∀ k, (∀ y0 y1 y2, LeO (regletref02_pieces.l0 k y0 y1 y2) (regletref02_pieces.l0 (k + 1) y0 y1 y2)) ∧ (∀ y0 y1 y2 y3, LeO (regletref02_pieces.j1 k y0 y1 y2 y3) (regletref02_pieces.j1 (k + 1) y0 y1 y2 y3))
  | 0 => ⟨fun _ _ _ r h => by simp [regletref02_pieces.l0] at h, fun _ _ _ _ r h => by simp [regletref02_pieces.j1] at h⟩
  | k + 1 => by
    obtain ⟨ih0, ih1⟩ := regletref02_pieces.mono_l k
    refine ⟨?_, ?_⟩
    · intro y0 y1 y2
      unfold regletref02_pieces.l0
      repeat' first
      | (with_reducible exact ih0 _ _ _)
      | (with_reducible exact ih1 _ _ _ _)
      | (with_reducible exact LeO.refl _)
      | (with_reducible exact LeO.none _)
      | (with_reducible refine LeO.ite ?_ ?_)
      | (with_reducible refine LeO.bind ?_ (fun _ => ?_))
      | exact ih0 _ _ _
      | exact ih1 _ _ _ _
      | exact LeO.none _
      | refine LeO.ite ?_ ?_
      | refine LeO.bind ?_ (fun _ => ?_)
    · intro y0 y1 y2 y3
      unfold regletref02_pieces.j1
      repeat' first
      | (with_reducible exact ih0 _ _ _)
      | (with_reducible exact ih1 _ _ _ _)
      | (with_reducible exact LeO.refl _)
      | (with_reducible exact LeO.none _)
      | (with_reducible refine LeO.ite ?_ ?_)
      | (with_reducible refine LeO.bind ?_ (fun _ => ?_))
      | exact ih0 _ _ _
      | exact ih1 _ _ _ _
      | exact LeO.none _
      | refine LeO.ite ?_ ?_
      | refine LeO.bind ?_ (fun _ => ?_)
theorem regletref02_pieces.mono : ∀ a0 a1 k, LeO (regletref02_pieces.f k a0 a1) (regletref02_pieces.f (k + 1) a0 a1) := by
  intro a0 a1 k
  obtain ⟨ih0, ih1⟩ := regletref02_pieces.mono_l k
  unfold regletref02_pieces.f
  repeat' first
      | (with_reducible exact ih0 _ _ _)
      | (with_reducible exact ih1 _ _ _ _)
      | (with_reducible exact LeO.refl _)
      | (with_reducible exact LeO.none _)
      | (with_reducible refine LeO.ite ?_ ?_)
      | (with_reducible refine LeO.bind ?_ (fun _ => ?_))
      | exact ih0 _ _ _
      | exact ih1 _ _ _ _
      | exact LeO.none _
      | refine LeO.ite ?_ ?_
      | refine LeO.bind ?_ (fun _ => ?_)
set_option maxHeartbeats 8000000 in
set_option maxRecDepth 100000 in
theorem regletref02_pieces.calls (k : Nat) (a0 : ByteArray) (a1 : Int) (r : Bool) (w : World) (h : regletref02_pieces.f k a0 a1 = some r) :
    Calls Try.prog 148 #[.string a0, .int .u8 a1] w fun e w' => e = .returned (.bool r) ∧ Drawn0 w w' := by
  have H : (regletref02_pieces.l0 k a0 a1 0) = some r := h
  clear h
  have H' := Aside0.mk H
  clear H
  go_enter Try.func148, Try.ntmps148
  go_wp2
  go_loopg [5] k (fun kq v5 w' => ∃ (x5_1 : Int), v5 = .int .i64 x5_1 ∧ Aside0 (regletref02_pieces.l0 kq a0 a1 x5_1 = some r) ∧ Aside0 (kq ≤ k) ∧ Drawn0 w w')
  case atStart => exact ⟨(0), (by first | rfl | (simp; done) | (simp [*]; done)), H', ⟨Nat.le_refl _⟩, by repeat (first | exact Drawn0.refl _ | apply Drawn0.step)⟩
  case round =>
    clear H'
    try clear c1
    try clear p2
    obtain ⟨x5_1, rfl, HA, HK1, ⟨m1, rfl⟩⟩ := hrel
    cases gk with
    | zero => exact absurd HA.out (by simp [regletref02_pieces.l0])
    | succ k1 =>
      have H := HA.out
      clear HA
      simp only [regletref02_pieces.l0] at H
      by_cases c3 : x5_1 < (a0.size : Int)
      · rw [if_pos c3] at H
        have c3b0 : decide (x5_1 < (a0.size : Int)) = true := decide_eq_true c3
        clear c3
        have HC4 := Aside0.mk H
        clear H
        go_upto_region 3 with (fail)
        go_cut [20] (fun v20 wc => ∃ (kq : Nat) (x20_3 : Bool), v20 = .bool x20_3 ∧ Aside0 (regletref02_pieces.j1 kq a0 a1 x5_1 x20_3 = some r) ∧ Aside0 (kq ≤ k1) ∧ Drawn0 w wc)
        case first =>
          have H := HC4.out
          clear HC4
          by_cases c5 : 0 ≤ x5_1
          · rw [if_pos c5] at H
            have c5b0 : decide (0 ≤ x5_1) = true := decide_eq_true c5
            clear c5
            (first | rw [c5b0] | (simp only [i64_w, i32_w]; rw [c5b0]) | skip)
            by_cases c7 : (bt a0 x5_1) = a1
            · rw [if_pos c7] at H
              have c7b0 : ((bt a0 x5_1) == a1) = true := beq_iff_eq.mpr c7
              have c7b1 : ((bt a0 x5_1) != a1) = false := bne_eq_false_iff_eq.mpr c7
              clear c7
              have H' := Aside0.mk H
              clear H
              have p6 : 0 ≤ (x5_1 : Int) := odt
              have q6 : x5_1 < (a0.size : Int) := odt
              have hx6 := bt_at a0 x5_1
              replace p6 := eq_true p6
              replace q6 := eq_true q6
              go_wp2
              go_meet
              case rel => exact ⟨_, (true), (by first | rfl | (simp; done) | (simp [*]; done)), H', ⟨by have := HK1.out; first | omega | exact Nat.le_refl _⟩, by repeat (first | exact Drawn0.refl _ | apply Drawn0.step)⟩
            · rw [if_neg c7] at H
              have c7b0 : ((bt a0 x5_1) == a1) = false := beq_eq_false_iff_ne.mpr c7
              have c7b1 : ((bt a0 x5_1) != a1) = true := bne_iff_ne.mpr c7
              have H' := Aside0.mk H
              clear H
              have p6 : 0 ≤ (x5_1 : Int) := odt
              have q6 : x5_1 < (a0.size : Int) := odt
              have hx6 := bt_at a0 x5_1
              replace p6 := eq_true p6
              replace q6 := eq_true q6
              have p8 : 0 ≤ (x5_1 : Int) := odt
              have q8 : x5_1 < (a0.size : Int) := odt
              have hx8 := bt_at a0 x5_1
              replace p8 := eq_true p8
              replace q8 := eq_true q8
              go_wp2
              go_meet
              case rel => exact ⟨_, (((bt a0 x5_1) == 10)), (by first | rfl | (simp; done) | (simp [*]; done)), H', ⟨by have := HK1.out; first | omega | exact Nat.le_refl _⟩, by repeat (first | exact Drawn0.refl _ | apply Drawn0.step)⟩
          · rw [if_neg c5] at H
            exact absurd H (by simp)
        case rest =>
          clear HC4
          try clear c1
          try clear p2
          try clear c3
          try clear c3b0
          try clear c5
          try clear c5b0
          try clear p6
          try clear q6
          try clear hx6
          try clear c7
          try clear c7b0
          try clear c7b1
          try clear p8
          try clear q8
          try clear hx8
          try clear p2
          try clear p6
          try clear p8
          try clear q6
          try clear q8
          obtain ⟨kq, x20_3, rfl, HA, HJ3, ⟨mc3, rfl⟩⟩ := hcut
          cases kq with
          | zero => exact absurd HA.out (by simp [regletref02_pieces.j1])
          | succ kj3 =>
            have H := HA.out
            clear HA
            simp only [regletref02_pieces.j1] at H
            by_cases c9 : x20_3 = true
            · subst c9
              have H1 : (some false) = some r := by rw [if_pos rfl] at H; exact H
              clear H
              have H := H1
              clear H1
              obtain rfl := Option.some.inj H
              go_wp2
              go_ret
              exact ⟨by first | rfl | (simp; done) | (simp [*]; done), by repeat (first | exact Drawn0.refl _ | apply Drawn0.step)⟩
            · replace c9 := Bool.eq_false_iff.mpr c9
              subst c9
              have H1 : (if 0 ≤ x5_1 then (if x5_1 < (a0.size : Int) then (if (bt a0 x5_1) = 92 then (if (wrap64 (x5_1 + 1)) = (a0.size : Int) then (some false) else (if 0 ≤ (wrap64 (x5_1 + 1)) then (if (wrap64 (x5_1 + 1)) < (a0.size : Int) then (if (bt a0 (wrap64 (x5_1 + 1))) = 10 then (some false) else (regletref02_pieces.l0 kj3 a0 a1 (wrap64 ((wrap64 (x5_1 + 1)) + 1)))) else (none)) else (none))) else (regletref02_pieces.l0 kj3 a0 a1 (wrap64 (x5_1 + 1)))) else (none)) else (none)) = some r := by rw [if_neg (show ¬ (false = true) by decide)] at H; exact H
              clear H
              have H := H1
              clear H1
              by_cases c10 : 0 ≤ x5_1
              · rw [if_pos c10] at H
                have c10b0 : decide (0 ≤ x5_1) = true := decide_eq_true c10
                clear c10
                by_cases c11 : x5_1 < (a0.size : Int)
                · rw [if_pos c11] at H
                  have c11b0 : decide (x5_1 < (a0.size : Int)) = true := decide_eq_true c11
                  clear c11
                  by_cases c13 : (bt a0 x5_1) = 92
                  · rw [if_pos c13] at H
                    have c13b0 : ((bt a0 x5_1) == 92) = true := beq_iff_eq.mpr c13
                    have c13b1 : ((bt a0 x5_1) != 92) = false := bne_eq_false_iff_eq.mpr c13
                    clear c13
                    by_cases c14 : (wrap64 (x5_1 + 1)) = (a0.size : Int)
                    · rw [if_pos c14] at H
                      have c14b0 : ((wrap64 (x5_1 + 1)) == (a0.size : Int)) = true := beq_iff_eq.mpr c14
                      have c14b1 : ((wrap64 (x5_1 + 1)) != (a0.size : Int)) = false := bne_eq_false_iff_eq.mpr c14
                      clear c14
                      obtain rfl := Option.some.inj H
                      have p12 : 0 ≤ (x5_1 : Int) := odt
                      have q12 : x5_1 < (a0.size : Int) := odt
                      have hx12 := bt_at a0 x5_1
                      replace p12 := eq_true p12
                      replace q12 := eq_true q12
                      go_wp2
                      go_ret
                      exact ⟨by first | rfl | (simp; done) | (simp [*]; done), by repeat (first | exact Drawn0.refl _ | apply Drawn0.step)⟩
                    · rw [if_neg c14] at H
                      have c14b0 : ((wrap64 (x5_1 + 1)) == (a0.size : Int)) = false := beq_eq_false_iff_ne.mpr c14
                      have c14b1 : ((wrap64 (x5_1 + 1)) != (a0.size : Int)) = true := bne_iff_ne.mpr c14
                      obtain ⟨ji15, hji15⟩ : ∃ j_ : Int, (wrap64 (x5_1 + 1)) = j_ := ⟨_, rfl⟩
                      replace H : (if 0 ≤ (ji15) then (if (ji15) < (a0.size : Int) then (if (bt a0 (ji15)) = 10 then (some false) else (regletref02_pieces.l0 kj3 a0 a1 (wrap64 ((ji15) + 1)))) else (none)) else (none)) = some r := by first | (rw [hji15] at H; exact H) | (simp only [hji15] at H ⊢; exact H)
                      (try rw [hji15] at c14b0)
                      (try rw [hji15] at c14b1)
                      have hji15w : (IntKind.i64.wrap (x5_1 + 1)) = ji15 := (i64_w _).trans hji15
                      by_cases c16 : 0 ≤ (ji15)
                      · rw [if_pos c16] at H
                        have c16b0 : decide (0 ≤ (ji15)) = true := decide_eq_true c16
                        clear c16
                        by_cases c17 : (ji15) < (a0.size : Int)
                        · rw [if_pos c17] at H
                          have c17b0 : decide ((ji15) < (a0.size : Int)) = true := decide_eq_true c17
                          clear c17
                          by_cases c19 : (bt a0 (ji15)) = 10
                          · rw [if_pos c19] at H
                            have c19b0 : ((bt a0 (ji15)) == 10) = true := beq_iff_eq.mpr c19
                            have c19b1 : ((bt a0 (ji15)) != 10) = false := bne_eq_false_iff_eq.mpr c19
                            clear c19
                            obtain rfl := Option.some.inj H
                            have p12 : 0 ≤ (x5_1 : Int) := odt
                            have q12 : x5_1 < (a0.size : Int) := odt
                            have hx12 := bt_at a0 x5_1
                            replace p12 := eq_true p12
                            replace q12 := eq_true q12
                            have p18 : 0 ≤ ((ji15) : Int) := odt
                            have q18 : (ji15) < (a0.size : Int) := odt
                            have hx18 := bt_at a0 (ji15)
                            replace p18 := eq_true p18
                            replace q18 := eq_true q18
                            go_wp2
                            go_ret
                            exact ⟨by first | rfl | (simp; done) | (simp only [← hji15] <;> (first | rfl | simp)) | (simp [*]; done), by repeat (first | exact Drawn0.refl _ | apply Drawn0.step)⟩
                          · rw [if_neg c19] at H
                            have c19b0 : ((bt a0 (ji15)) == 10) = false := beq_eq_false_iff_ne.mpr c19
                            have c19b1 : ((bt a0 (ji15)) != 10) = true := bne_iff_ne.mpr c19
                            have H' := Aside0.mk H
                            clear H
                            have p12 : 0 ≤ (x5_1 : Int) := odt
                            have q12 : x5_1 < (a0.size : Int) := odt
                            have hx12 := bt_at a0 x5_1
                            replace p12 := eq_true p12
                            replace q12 := eq_true q12
                            have p18 : 0 ≤ ((ji15) : Int) := odt
                            have q18 : (ji15) < (a0.size : Int) := odt
                            have hx18 := bt_at a0 (ji15)
                            replace p18 := eq_true p18
                            replace q18 := eq_true q18
                            go_wp2
                            go_roundg kj3
                            case measure => have := HK1.out; have := HJ3.out; omega
                            case rel => exact ⟨(wrap64 ((ji15) + 1)), (by first | rfl | (simp; done) | (simp only [← hji15] <;> (first | rfl | simp)) | (simp [*]; done)), H', ⟨by have := HK1.out; have := HJ3.out; omega⟩, by repeat (first | exact Drawn0.refl _ | apply Drawn0.step)⟩
                        · rw [if_neg c17] at H
                          exact absurd H (by simp)
                      · rw [if_neg c16] at H
                        exact absurd H (by simp)
                  · rw [if_neg c13] at H
                    have c13b0 : ((bt a0 x5_1) == 92) = false := beq_eq_false_iff_ne.mpr c13
                    have c13b1 : ((bt a0 x5_1) != 92) = true := bne_iff_ne.mpr c13
                    have H' := Aside0.mk H
                    clear H
                    have p12 : 0 ≤ (x5_1 : Int) := odt
                    have q12 : x5_1 < (a0.size : Int) := odt
                    have hx12 := bt_at a0 x5_1
                    replace p12 := eq_true p12
                    replace q12 := eq_true q12
                    go_wp2
                    go_roundg kj3
                    case measure => have := HK1.out; have := HJ3.out; omega
                    case rel => exact ⟨(wrap64 (x5_1 + 1)), (by first | rfl | (simp; done) | (simp [*]; done)), H', ⟨by have := HK1.out; have := HJ3.out; omega⟩, by repeat (first | exact Drawn0.refl _ | apply Drawn0.step)⟩
                · rw [if_neg c11] at H
                  exact absurd H (by simp)
              · rw [if_neg c10] at H
                exact absurd H (by simp)
      · rw [if_neg c3] at H
        have c3b0 : decide (x5_1 < (a0.size : Int)) = false := decide_eq_false c3
        clear c3
        obtain rfl := Option.some.inj H
        go_wp2
        go_ret
        exact ⟨by first | rfl | (simp; done) | (simp [*]; done), by repeat (first | exact Drawn0.refl _ | apply Drawn0.step)⟩

end Go.Proofs.Ytonfmnohmigjpaa.P
namespace Go.Proofs.Ytonfmnohmigjpaa.P
open Go.RowKit Go.Proofs.YtonfmnohmigjpaaW.PrintWords Go.Proofs.YtonfmnohmigjpaaW.PrintLast
set_option linter.unusedVariables false
set_option linter.unusedSimpArgs false

/-! ### regletref02_IsWord: function 138 -/
def regletref02_IsWord.l0 : Nat → ByteArray → Int → Option (Bool)
  | 0, _, _ => none
  | k + 1, x0, x3 => if x3 < (x0.size : Int) then (if 0 ≤ x3 then ((regletref02_letter.f (bt x0 x3)).bind fun t218 => (if t218 = true then (regletref02_IsWord.l0 k x0 (wrap64 (x3 + 1))) else (if x3 = 0 then (some false) else ((regletref02_digit.f (bt x0 x3)).bind fun t219 => (if t219 = true then (regletref02_IsWord.l0 k x0 (wrap64 (x3 + 1))) else (some false)))))) else (none)) else (some (decide ((x0.size : Int) > 0)))
def regletref02_IsWord.f (k : Nat) (a0 : ByteArray) : Option (Bool) := regletref02_IsWord.l0 k a0 0
theorem regletref02_IsWord.mono_l : ∀ k, (∀ y0 y1, LeO (regletref02_IsWord.l0 k y0 y1) (regletref02_IsWord.l0 (k + 1) y0 y1))
  | 0 => fun _ _ r h => by simp [regletref02_IsWord.l0] at h
  | k + 1 => by
    have ih0 := regletref02_IsWord.mono_l k
    · intro y0 y1
      unfold regletref02_IsWord.l0
      repeat' first
      | (with_reducible exact ih0 _ _)
      | (with_reducible exact LeO.refl _)
      | (with_reducible exact LeO.none _)
      | (with_reducible refine LeO.ite ?_ ?_)
      | (with_reducible refine LeO.bind ?_ (fun _ => ?_))
      | exact ih0 _ _
      | exact LeO.none _
      | refine LeO.ite ?_ ?_
      | refine LeO.bind ?_ (fun _ => ?_)
theorem regletref02_IsWord.mono : ∀ a0 k, LeO (regletref02_IsWord.f k a0) (regletref02_IsWord.f (k + 1) a0) := by
  intro a0 k
  have ih0 := regletref02_IsWord.mono_l k
  unfold regletref02_IsWord.f
  repeat' first
      | (with_reducible exact ih0 _ _)
      | (with_reducible exact LeO.refl _)
      | (with_reducible exact LeO.none _)
      | (with_reducible refine LeO.ite ?_ ?_)
      | (with_reducible refine LeO.bind ?_ (fun _ => ?_))
      | exact ih0 _ _
      | exact LeO.none _
      | refine LeO.ite ?_ ?_
      | refine LeO.bind ?_ (fun _ => ?_)
set_option maxHeartbeats 8000000 in
set_option maxRecDepth 100000 in
theorem regletref02_IsWord.calls (k : Nat) (a0 : ByteArray) (r : Bool) (w : World) (h : regletref02_IsWord.f k a0 = some r) :
    Calls Try.prog 138 #[.string a0] w fun e w' => e = .returned (.bool r) ∧ Drawn0 w w' := by
  have H : (regletref02_IsWord.l0 k a0 0) = some r := h
  clear h
  have H' := Aside0.mk H
  clear H
  go_enter Try.func138, Try.ntmps138
  go_wp2
  go_loopg [3] k (fun kq v3 w' => ∃ (x3_1 : Int), v3 = .int .i64 x3_1 ∧ Aside0 (regletref02_IsWord.l0 kq a0 x3_1 = some r) ∧ Aside0 (kq ≤ k) ∧ Drawn0 w w')
  case atStart => exact ⟨(0), (by first | rfl | (simp; done) | (simp [*]; done)), H', ⟨Nat.le_refl _⟩, by repeat (first | exact Drawn0.refl _ | apply Drawn0.step)⟩
  case round =>
    clear H'
    try clear c1
    obtain ⟨x3_1, rfl, HA, HK1, ⟨m1, rfl⟩⟩ := hrel
    cases gk with
    | zero => exact absurd HA.out (by simp [regletref02_IsWord.l0])
    | succ k1 =>
      have H := HA.out
      clear HA
      simp only [regletref02_IsWord.l0] at H
      by_cases c2 : x3_1 < (a0.size : Int)
      · rw [if_pos c2] at H
        have c2b0 : decide (x3_1 < (a0.size : Int)) = true := decide_eq_true c2
        clear c2
        by_cases c3 : 0 ≤ x3_1
        · rw [if_pos c3] at H
          have c3b0 : decide (0 ≤ x3_1) = true := decide_eq_true c3
          clear c3
          replace H := Option.bind_eq_some_iff.mp H
          obtain ⟨t218, A50, H⟩ := H
          replace H : (if t218 = true then (regletref02_IsWord.l0 k1 a0 (wrap64 (x3_1 + 1))) else (if x3_1 = 0 then (some false) else ((regletref02_digit.f (bt a0 x3_1)).bind fun t219 => (if t219 = true then (regletref02_IsWord.l0 k1 a0 (wrap64 (x3_1 + 1))) else (some false))))) = some r := H
          have A5 := Aside0.mk A50
          clear A50
          by_cases c6 : t218 = true
          · subst c6
            have H1 : (regletref02_IsWord.l0 k1 a0 (wrap64 (x3_1 + 1))) = some r := by rw [if_pos rfl] at H; exact H
            clear H
            have H := H1
            clear H1
            have H' := Aside0.mk H
            clear H
            have p4 : 0 ≤ (x3_1 : Int) := odt
            have q4 : x3_1 < (a0.size : Int) := odt
            have hx4 := bt_at a0 x3_1
            replace p4 := eq_true p4
            replace q4 := eq_true q4
            go_wp2_with (first | ((with_reducible refine gate_callee (f := 144) rfl ?_); refine goesL_ (some 13) rfl rfl Try.func144 (by kernel_rfl) rfl #[.int .u8 (bt a0 x3_1)] rfl (by (try simp only [List.map_toArray, List.map_cons, List.map_nil]); first | done | rfl | (simp only [List.length_drop, List.length_take]; rfl)) ?_; (with_reducible refine (regletref02_letter.calls (bt a0 x3_1) true _ A5.out).mono ?_); rintro e w' ⟨rfl, ⟨nd, rfl⟩⟩; refine ⟨_, rfl, ?_⟩))
            go_roundg k1
            case measure => have := HK1.out; omega
            case rel => exact ⟨(wrap64 (x3_1 + 1)), (by first | rfl | (simp; done) | (simp [*]; done)), H', ⟨by have := HK1.out; omega⟩, by repeat (first | exact Drawn0.refl _ | apply Drawn0.step)⟩
          · replace c6 := Bool.eq_false_iff.mpr c6
            subst c6
            have H1 : (if x3_1 = 0 then (some false) else ((regletref02_digit.f (bt a0 x3_1)).bind fun t219 => (if t219 = true then (regletref02_IsWord.l0 k1 a0 (wrap64 (x3_1 + 1))) else (some false)))) = some r := by rw [if_neg (show ¬ (false = true) by decide)] at H; exact H
            clear H
            have H := H1
            clear H1
            by_cases c7 : x3_1 = 0
            · rw [if_pos c7] at H
              have c7b0 : (x3_1 == 0) = true := beq_iff_eq.mpr c7
              have c7b1 : (x3_1 != 0) = false := bne_eq_false_iff_eq.mpr c7
              clear c7
              obtain rfl := Option.some.inj H
              have p4 : 0 ≤ (x3_1 : Int) := odt
              have q4 : x3_1 < (a0.size : Int) := odt
              have hx4 := bt_at a0 x3_1
              replace p4 := eq_true p4
              replace q4 := eq_true q4
              go_wp2_with (first | ((with_reducible refine gate_callee (f := 144) rfl ?_); refine goesL_ (some 13) rfl rfl Try.func144 (by kernel_rfl) rfl #[.int .u8 (bt a0 x3_1)] rfl (by (try simp only [List.map_toArray, List.map_cons, List.map_nil]); first | done | rfl | (simp only [List.length_drop, List.length_take]; rfl)) ?_; (with_reducible refine (regletref02_letter.calls (bt a0 x3_1) false _ A5.out).mono ?_); rintro e w' ⟨rfl, ⟨nd, rfl⟩⟩; refine ⟨_, rfl, ?_⟩))
              go_ret
              exact ⟨by first | rfl | (simp; done) | (simp [*]; done), by repeat (first | exact Drawn0.refl _ | apply Drawn0.step)⟩
            · rw [if_neg c7] at H
              have c7b0 : (x3_1 == 0) = false := beq_eq_false_iff_ne.mpr c7
              have c7b1 : (x3_1 != 0) = true := bne_iff_ne.mpr c7
              replace H := Option.bind_eq_some_iff.mp H
              obtain ⟨t219, A90, H⟩ := H
              replace H : (if t219 = true then (regletref02_IsWord.l0 k1 a0 (wrap64 (x3_1 + 1))) else (some false)) = some r := H
              have A9 := Aside0.mk A90
              clear A90
              by_cases c10 : t219 = true
              · subst c10
                have H1 : (regletref02_IsWord.l0 k1 a0 (wrap64 (x3_1 + 1))) = some r := by rw [if_pos rfl] at H; exact H
                clear H
                have H := H1
                clear H1
                have H' := Aside0.mk H
                clear H
                have p4 : 0 ≤ (x3_1 : Int) := odt
                have q4 : x3_1 < (a0.size : Int) := odt
                have hx4 := bt_at a0 x3_1
                replace p4 := eq_true p4
                replace q4 := eq_true q4
                go_wp2_with (first | ((with_reducible refine gate_callee (f := 144) rfl ?_); refine goesL_ (some 13) rfl rfl Try.func144 (by kernel_rfl) rfl #[.int .u8 (bt a0 x3_1)] rfl (by (try simp only [List.map_toArray, List.map_cons, List.map_nil]); first | done | rfl | (simp only [List.length_drop, List.length_take]; rfl)) ?_; (with_reducible refine (regletref02_letter.calls (bt a0 x3_1) false _ A5.out).mono ?_); rintro e w' ⟨rfl, ⟨nd, rfl⟩⟩; refine ⟨_, rfl, ?_⟩; have p8 : 0 ≤ (x3_1 : Int) := odt; have q8 : x3_1 < (a0.size : Int) := odt; have hx8 := bt_at a0 x3_1; replace p8 := eq_true p8; replace q8 := eq_true q8) | (go_at_call 145; (with_reducible refine (regletref02_digit.calls (bt a0 x3_1) true _ A9.out).mono ?_); rintro e w' ⟨rfl, ⟨nd, rfl⟩⟩))
                go_roundg k1
                case measure => have := HK1.out; omega
                case rel => exact ⟨(wrap64 (x3_1 + 1)), (by first | rfl | (simp; done) | (simp [*]; done)), H', ⟨by have := HK1.out; omega⟩, by repeat (first | exact Drawn0.refl _ | apply Drawn0.step)⟩
              · replace c10 := Bool.eq_false_iff.mpr c10
                subst c10
                have H1 : (some false) = some r := by rw [if_neg (show ¬ (false = true) by decide)] at H; exact H
                clear H
                have H := H1
                clear H1
                obtain rfl := Option.some.inj H
                have p4 : 0 ≤ (x3_1 : Int) := odt
                have q4 : x3_1 < (a0.size : Int) := odt
                have hx4 := bt_at a0 x3_1
                replace p4 := eq_true p4
                replace q4 := eq_true q4
                go_wp2_with (first | ((with_reducible refine gate_callee (f := 144) rfl ?_); refine goesL_ (some 13) rfl rfl Try.func144 (by kernel_rfl) rfl #[.int .u8 (bt a0 x3_1)] rfl (by (try simp only [List.map_toArray, List.map_cons, List.map_nil]); first | done | rfl | (simp only [List.length_drop, List.length_take]; rfl)) ?_; (with_reducible refine (regletref02_letter.calls (bt a0 x3_1) false _ A5.out).mono ?_); rintro e w' ⟨rfl, ⟨nd, rfl⟩⟩; refine ⟨_, rfl, ?_⟩; have p8 : 0 ≤ (x3_1 : Int) := odt; have q8 : x3_1 < (a0.size : Int) := odt; have hx8 := bt_at a0 x3_1; replace p8 := eq_true p8; replace q8 := eq_true q8) | (go_at_call 145; (with_reducible refine (regletref02_digit.calls (bt a0 x3_1) false _ A9.out).mono ?_); rintro e w' ⟨rfl, ⟨nd, rfl⟩⟩))
                go_ret
                exact ⟨by first | rfl | (simp; done) | (simp [*]; done), by repeat (first | exact Drawn0.refl _ | apply Drawn0.step)⟩
        · rw [if_neg c3] at H
          exact absurd H (by simp)
      · rw [if_neg c2] at H
        have c2b0 : decide (x3_1 < (a0.size : Int)) = false := decide_eq_false c2
        clear c2
        obtain rfl := Option.some.inj H
        go_wp2
        go_ret
        exact ⟨by first | rfl | (simp; done) | (simp [*]; done), by repeat (first | exact Drawn0.refl _ | apply Drawn0.step)⟩

end Go.Proofs.Ytonfmnohmigjpaa.P
namespace Go.Proofs.Ytonfmnohmigjpaa.P
open Go.RowKit Go.Proofs.YtonfmnohmigjpaaW.PrintWords Go.Proofs.YtonfmnohmigjpaaW.PrintLast
set_option linter.unusedVariables false
set_option linter.unusedSimpArgs false

/-! ### regletref02_IsNumber: function 139 -/
mutual
def regletref02_IsNumber.j0 : Nat → ByteArray → Int → Bool → Option (Bool)
  | 0, _, _, _ => none
  | k + 1, x0, x3, x20 => if x20 = true then (if 1 < (x0.size : Int) then ((regletref02_digit.f (bt x0 1)).bind fun t221 => (some t221)) else (none)) else (if 0 ≤ (wrap64 (x3 - 1)) then (if (wrap64 (x3 - 1)) < (x0.size : Int) then ((regletref02_sign.f (bt x0 (wrap64 (x3 - 1)))).bind fun t222 => (if t222 = true then (if x3 > 2 then (if 0 ≤ (wrap64 (x3 - 2)) then (if (wrap64 (x3 - 2)) < (x0.size : Int) then ((regletref02_expo.f (bt x0 (wrap64 (x3 - 2)))).bind fun t223 => (if t223 = true then (if (wrap64 (x3 - 2)) ≤ (x0.size : Int) then ((regletref02_IsNumber.f k (x0.extract 0 ((wrap64 (x3 - 2)) : Int).toNat)).bind fun t224 => (some t224)) else (none)) else (some false))) else (none)) else (none)) else (some false)) else ((regletref02_digit.f (bt x0 (wrap64 (x3 - 1)))).bind fun t225 => (if t225 = true then (if (wrap64 (x3 - 1)) ≤ (x0.size : Int) then ((regletref02_IsNumber.f k (x0.extract 0 ((wrap64 (x3 - 1)) : Int).toNat)).bind fun t226 => (some t226)) else (none)) else ((regletref02_letter.f (bt x0 (wrap64 (x3 - 1)))).bind fun t227 => (if t227 = true then (if (wrap64 (x3 - 1)) ≤ (x0.size : Int) then ((regletref02_IsNumber.f k (x0.extract 0 ((wrap64 (x3 - 1)) : Int).toNat)).bind fun t228 => (some t228)) else (none)) else (if (bt x0 (wrap64 (x3 - 1))) = 46 then (if (wrap64 (x3 - 1)) ≤ (x0.size : Int) then ((regletref02_IsNumber.f k (x0.extract 0 ((wrap64 (x3 - 1)) : Int).toNat)).bind fun t229 => (some t229)) else (none)) else (some false)))))))) else (none)) else (none))
def regletref02_IsNumber.f : Nat → ByteArray → Option (Bool)
  | 0, _ => none
  | k + 1, a0 => if (a0.size : Int) = 0 then (some false) else (if (a0.size : Int) = 1 then (if 0 < (a0.size : Int) then ((regletref02_digit.f (bt a0 0)).bind fun t220 => (some t220)) else (none)) else (if (a0.size : Int) = 2 then (if 0 < (a0.size : Int) then (regletref02_IsNumber.j0 k a0 (a0.size : Int) ((bt a0 0) == 46)) else (none)) else (regletref02_IsNumber.j0 k a0 (a0.size : Int) false)))
end
theorem regletref02_IsNumber.mono_l : ∀ k, (∀ y0, LeO (regletref02_IsNumber.f k y0) (regletref02_IsNumber.f (k + 1) y0)) ∧ (∀ y0 y1 y2, LeO (regletref02_IsNumber.j0 k y0 y1 y2) (regletref02_IsNumber.j0 (k + 1) y0 y1 y2))
  | 0 => ⟨fun _ r h => by simp [regletref02_IsNumber.f] at h, fun _ _ _ r h => by simp [regletref02_IsNumber.j0] at h⟩
  | k + 1 => by
    obtain ⟨ih0, ih1⟩ := regletref02_IsNumber.mono_l k
    refine ⟨?_, ?_⟩
    · intro y0
      unfold regletref02_IsNumber.f
      repeat' first
      | (with_reducible exact ih0 _)
      | (with_reducible exact ih1 _ _ _)
      | (with_reducible exact LeO.refl _)
      | (with_reducible exact LeO.none _)
      | (with_reducible refine LeO.ite ?_ ?_)
      | (with_reducible refine LeO.bind ?_ (fun _ => ?_))
      | exact ih0 _
      | exact ih1 _ _ _
      | exact LeO.none _
      | refine LeO.ite ?_ ?_
      | refine LeO.bind ?_ (fun _ => ?_)
    · intro y0 y1 y2
      unfold regletref02_IsNumber.j0
      repeat' first
      | (with_reducible exact ih0 _)
      | (with_reducible exact ih1 _ _ _)
      | (with_reducible exact LeO.refl _)
      | (with_reducible exact LeO.none _)
      | (with_reducible refine LeO.ite ?_ ?_)
      | (with_reducible refine LeO.bind ?_ (fun _ => ?_))
      | exact ih0 _
      | exact ih1 _ _ _
      | exact LeO.none _
      | refine LeO.ite ?_ ?_
      | refine LeO.bind ?_ (fun _ => ?_)
theorem regletref02_IsNumber.mono : ∀ a0 k, LeO (regletref02_IsNumber.f k a0) (regletref02_IsNumber.f (k + 1) a0) := by
  intro a0 k
  obtain ⟨ih0, ih1⟩ := regletref02_IsNumber.mono_l k
  exact ih0 a0
set_option maxHeartbeats 8000000 in
set_option maxRecDepth 100000 in
theorem regletref02_IsNumber.calls (k : Nat) : ∀ (a0 : ByteArray) (r : Bool) (w : World) (h : regletref02_IsNumber.f k a0 = some r),
    Calls Try.prog 139 #[.string a0] w fun e w' => e = .returned (.bool r) ∧ Drawn0 w w' := by
  induction k using Nat.strongRecOn with
  | _ k ih =>
  intro a0 r w h
  cases k with
  | zero => exact absurd h (by simp [regletref02_IsNumber.f])
  | succ k =>
  simp only [regletref02_IsNumber.f] at h
  have H : (if (a0.size : Int) = 0 then (some false) else (if (a0.size : Int) = 1 then (if 0 < (a0.size : Int) then ((regletref02_digit.f (bt a0 0)).bind fun t220 => (some t220)) else (none)) else (if (a0.size : Int) = 2 then (if 0 < (a0.size : Int) then (regletref02_IsNumber.j0 k a0 (a0.size : Int) ((bt a0 0) == 46)) else (none)) else (regletref02_IsNumber.j0 k a0 (a0.size : Int) false)))) = some r := h
  clear h
  by_cases c2 : (a0.size : Int) = 0
  · rw [if_pos c2] at H
    have c2b0 : ((a0.size : Int) == 0) = true := beq_iff_eq.mpr c2
    have c2b1 : ((a0.size : Int) != 0) = false := bne_eq_false_iff_eq.mpr c2
    clear c2
    obtain rfl := Option.some.inj H
    go_enter Try.func139, Try.ntmps139
    go_wp2
    go_ret
    exact ⟨by first | rfl | (simp; done) | (simp [*]; done), by repeat (first | exact Drawn0.refl _ | apply Drawn0.step)⟩
  · rw [if_neg c2] at H
    have c2b0 : ((a0.size : Int) == 0) = false := beq_eq_false_iff_ne.mpr c2
    have c2b1 : ((a0.size : Int) != 0) = true := bne_iff_ne.mpr c2
    by_cases c3 : (a0.size : Int) = 1
    · rw [if_pos c3] at H
      have c3b0 : ((a0.size : Int) == 1) = true := beq_iff_eq.mpr c3
      have c3b1 : ((a0.size : Int) != 1) = false := bne_eq_false_iff_eq.mpr c3
      clear c3
      by_cases c4 : 0 < (a0.size : Int)
      · rw [if_pos c4] at H
        have c4b0 : decide (0 < (a0.size : Int)) = true := decide_eq_true c4
        have c4b1 : decide (0 < a0.size) = true := decide_eq_true (by omega)
        clear c4
        replace H := Option.bind_eq_some_iff.mp H
        obtain ⟨t220, A60, H⟩ := H
        replace H : (some t220) = some r := H
        have A6 := Aside0.mk A60
        clear A60
        obtain rfl := Option.some.inj H
        have p5 : 0 ≤ (0 : Int) := (by omega)
        have q5 : 0 < a0.size := (by have : (0 : Int) < (a0.size : Int) := odt; omega)
        have hx5 : ∀ h : 0 < a0.size, ((a0[0]'h).toNat : Int) = bt a0 0 := bt_at a0 0
        clear p5
        have qi5 : (0 < (a0.size : Int)) = True := eq_true (odt)
        replace q5 := eq_true q5
        go_enter Try.func139, Try.ntmps139
        go_wp2_with (first | ((with_reducible refine gate_callee (f := 145) rfl ?_); refine goesL_ (some 13) rfl rfl Try.func145 (by kernel_rfl) rfl #[.int .u8 (bt a0 0)] rfl (by (try simp only [List.map_toArray, List.map_cons, List.map_nil]); first | done | rfl | (simp only [List.length_drop, List.length_take]; rfl)) ?_; (with_reducible refine (regletref02_digit.calls (bt a0 0) t220 _ A6.out).mono ?_); rintro e w' ⟨rfl, ⟨nd, rfl⟩⟩; refine ⟨_, rfl, ?_⟩))
        go_ret
        exact ⟨by first | rfl | (simp; done) | (simp [*]; done), by repeat (first | exact Drawn0.refl _ | apply Drawn0.step)⟩
      · rw [if_neg c4] at H
        exact absurd H (by simp)
    · rw [if_neg c3] at H
      have c3b0 : ((a0.size : Int) == 1) = false := beq_eq_false_iff_ne.mpr c3
      have c3b1 : ((a0.size : Int) != 1) = true := bne_iff_ne.mpr c3
      have HC7 := Aside0.mk H
      clear H
      go_enter Try.func139, Try.ntmps139
      go_upto_region 6 with (fail)
      go_cut [20] (fun v20 wc => ∃ (kq : Nat) (x20_6 : Bool), v20 = .bool x20_6 ∧ Aside0 (regletref02_IsNumber.j0 kq a0 (a0.size : Int) x20_6 = some r) ∧ Aside0 (kq ≤ k) ∧ Drawn0 w wc)
      case first =>
        have H := HC7.out
        clear HC7
        by_cases c8 : (a0.size : Int) = 2
        · rw [if_pos c8] at H
          have c8b0 : ((a0.size : Int) == 2) = true := beq_iff_eq.mpr c8
          have c8b1 : ((a0.size : Int) != 2) = false := bne_eq_false_iff_eq.mpr c8
          clear c8
          (first | rw [c8b0] | (simp only [i64_w, i32_w]; rw [c8b0]) | skip)
          by_cases c9 : 0 < (a0.size : Int)
          · rw [if_pos c9] at H
            have c9b0 : decide (0 < (a0.size : Int)) = true := decide_eq_true c9
            have c9b1 : decide (0 < a0.size) = true := decide_eq_true (by omega)
            clear c9
            have H' := Aside0.mk H
            clear H
            have p10 : 0 ≤ (0 : Int) := (by omega)
            have q10 : 0 < a0.size := (by have : (0 : Int) < (a0.size : Int) := odt; omega)
            have hx10 : ∀ h : 0 < a0.size, ((a0[0]'h).toNat : Int) = bt a0 0 := bt_at a0 0
            clear p10
            have qi10 : (0 < (a0.size : Int)) = True := eq_true (odt)
            replace q10 := eq_true q10
            go_wp2
            go_meet
            case rel => exact ⟨_, (((bt a0 0) == 46)), (by first | rfl | (simp; done) | (simp [*]; done)), H', ⟨by first | omega | exact Nat.le_refl _⟩, by repeat (first | exact Drawn0.refl _ | apply Drawn0.step)⟩
          · rw [if_neg c9] at H
            exact absurd H (by simp)
        · rw [if_neg c8] at H
          have c8b0 : ((a0.size : Int) == 2) = false := beq_eq_false_iff_ne.mpr c8
          have c8b1 : ((a0.size : Int) != 2) = true := bne_iff_ne.mpr c8
          (first | rw [c8b0] | (simp only [i64_w, i32_w]; rw [c8b0]) | skip)
          have H' := Aside0.mk H
          clear H
          go_wp2
          go_meet
          case rel => exact ⟨_, (false), (by first | rfl | (simp; done) | (simp [*]; done)), H', ⟨by first | omega | exact Nat.le_refl _⟩, by repeat (first | exact Drawn0.refl _ | apply Drawn0.step)⟩
      case rest =>
        clear HC7
        try clear c1
        try clear p1
        try clear q1
        try clear hx1
        try clear qi1
        try clear c2
        try clear c2b0
        try clear c2b1
        try clear p2
        try clear c3
        try clear c3b0
        try clear c3b1
        try clear c4
        try clear c4b0
        try clear c4b1
        try clear p5
        try clear q5
        try clear hx5
        try clear qi5
        try clear c8
        try clear c8b0
        try clear c8b1
        try clear c9
        try clear c9b0
        try clear c9b1
        try clear p10
        try clear q10
        try clear hx10
        try clear qi10
        try clear p10
        try clear p5
        try clear q10
        try clear q5
        obtain ⟨kq, x20_6, rfl, HA, HJ6, ⟨mc6, rfl⟩⟩ := hcut
        cases kq with
        | zero => exact absurd HA.out (by simp [regletref02_IsNumber.j0])
        | succ kj6 =>
          have H := HA.out
          clear HA
          simp only [regletref02_IsNumber.j0] at H
          by_cases c11 : x20_6 = true
          · subst c11
            have H1 : (if 1 < (a0.size : Int) then ((regletref02_digit.f (bt a0 1)).bind fun t221 => (some t221)) else (none)) = some r := by rw [if_pos rfl] at H; exact H
            clear H
            have H := H1
            clear H1
            by_cases c12 : 1 < (a0.size : Int)
            · rw [if_pos c12] at H
              have c12b0 : decide (1 < (a0.size : Int)) = true := decide_eq_true c12
              have c12b1 : decide (1 < a0.size) = true := decide_eq_true (by omega)
              clear c12
              replace H := Option.bind_eq_some_iff.mp H
              obtain ⟨t221, A140, H⟩ := H
              replace H : (some t221) = some r := H
              have A14 := Aside0.mk A140
              clear A140
              obtain rfl := Option.some.inj H
              have p13 : 0 ≤ (1 : Int) := (by omega)
              have q13 : 1 < a0.size := (by have : (1 : Int) < (a0.size : Int) := odt; omega)
              have hx13 : ∀ h : 1 < a0.size, ((a0[1]'h).toNat : Int) = bt a0 1 := bt_at a0 1
              clear p13
              have qi13 : (1 < (a0.size : Int)) = True := eq_true (odt)
              replace q13 := eq_true q13
              go_wp2_with (first | ((with_reducible refine gate_callee (f := 145) rfl ?_); refine goesL_ (some 23) rfl rfl Try.func145 (by kernel_rfl) rfl #[.int .u8 (bt a0 1)] rfl (by (try simp only [List.map_toArray, List.map_cons, List.map_nil]); first | done | rfl | (simp only [List.length_drop, List.length_take]; rfl)) ?_; (with_reducible refine (regletref02_digit.calls (bt a0 1) t221 _ A14.out).mono ?_); rintro e w' ⟨rfl, ⟨nd, rfl⟩⟩; refine ⟨_, rfl, ?_⟩))
              go_ret
              exact ⟨by first | rfl | (simp; done) | (simp [*]; done), by repeat (first | exact Drawn0.refl _ | apply Drawn0.step)⟩
            · rw [if_neg c12] at H
              exact absurd H (by simp)
          · replace c11 := Bool.eq_false_iff.mpr c11
            subst c11
            have H1 : (if 0 ≤ (wrap64 ((a0.size : Int) - 1)) then (if (wrap64 ((a0.size : Int) - 1)) < (a0.size : Int) then ((regletref02_sign.f (bt a0 (wrap64 ((a0.size : Int) - 1)))).bind fun t222 => (if t222 = true then (if (a0.size : Int) > 2 then (if 0 ≤ (wrap64 ((a0.size : Int) - 2)) then (if (wrap64 ((a0.size : Int) - 2)) < (a0.size : Int) then ((regletref02_expo.f (bt a0 (wrap64 ((a0.size : Int) - 2)))).bind fun t223 => (if t223 = true then (if (wrap64 ((a0.size : Int) - 2)) ≤ (a0.size : Int) then ((regletref02_IsNumber.f kj6 (a0.extract 0 ((wrap64 ((a0.size : Int) - 2)) : Int).toNat)).bind fun t224 => (some t224)) else (none)) else (some false))) else (none)) else (none)) else (some false)) else ((regletref02_digit.f (bt a0 (wrap64 ((a0.size : Int) - 1)))).bind fun t225 => (if t225 = true then (if (wrap64 ((a0.size : Int) - 1)) ≤ (a0.size : Int) then ((regletref02_IsNumber.f kj6 (a0.extract 0 ((wrap64 ((a0.size : Int) - 1)) : Int).toNat)).bind fun t226 => (some t226)) else (none)) else ((regletref02_letter.f (bt a0 (wrap64 ((a0.size : Int) - 1)))).bind fun t227 => (if t227 = true then (if (wrap64 ((a0.size : Int) - 1)) ≤ (a0.size : Int) then ((regletref02_IsNumber.f kj6 (a0.extract 0 ((wrap64 ((a0.size : Int) - 1)) : Int).toNat)).bind fun t228 => (some t228)) else (none)) else (if (bt a0 (wrap64 ((a0.size : Int) - 1))) = 46 then (if (wrap64 ((a0.size : Int) - 1)) ≤ (a0.size : Int) then ((regletref02_IsNumber.f kj6 (a0.extract 0 ((wrap64 ((a0.size : Int) - 1)) : Int).toNat)).bind fun t229 => (some t229)) else (none)) else (some false)))))))) else (none)) else (none)) = some r := by rw [if_neg (show ¬ (false = true) by decide)] at H; exact H
            clear H
            have H := H1
            clear H1
            obtain ⟨ji15, hji15⟩ : ∃ j_ : Int, (wrap64 ((a0.size : Int) - 1)) = j_ := ⟨_, rfl⟩
            replace H : (if 0 ≤ (ji15) then (if (ji15) < (a0.size : Int) then ((regletref02_sign.f (bt a0 (ji15))).bind fun t222 => (if t222 = true then (if (a0.size : Int) > 2 then (if 0 ≤ (wrap64 ((a0.size : Int) - 2)) then (if (wrap64 ((a0.size : Int) - 2)) < (a0.size : Int) then ((regletref02_expo.f (bt a0 (wrap64 ((a0.size : Int) - 2)))).bind fun t223 => (if t223 = true then (if (wrap64 ((a0.size : Int) - 2)) ≤ (a0.size : Int) then ((regletref02_IsNumber.f kj6 (a0.extract 0 ((wrap64 ((a0.size : Int) - 2)) : Int).toNat)).bind fun t224 => (some t224)) else (none)) else (some false))) else (none)) else (none)) else (some false)) else ((regletref02_digit.f (bt a0 (ji15))).bind fun t225 => (if t225 = true then (if (ji15) ≤ (a0.size : Int) then ((regletref02_IsNumber.f kj6 (a0.extract 0 ((ji15) : Int).toNat)).bind fun t226 => (some t226)) else (none)) else ((regletref02_letter.f (bt a0 (ji15))).bind fun t227 => (if t227 = true then (if (ji15) ≤ (a0.size : Int) then ((regletref02_IsNumber.f kj6 (a0.extract 0 ((ji15) : Int).toNat)).bind fun t228 => (some t228)) else (none)) else (if (bt a0 (ji15)) = 46 then (if (ji15) ≤ (a0.size : Int) then ((regletref02_IsNumber.f kj6 (a0.extract 0 ((ji15) : Int).toNat)).bind fun t229 => (some t229)) else (none)) else (some false)))))))) else (none)) else (none)) = some r := by first | (rw [hji15] at H; exact H) | (simp only [hji15] at H ⊢; exact H)
            have hji15w : (IntKind.i64.wrap ((a0.size : Int) - 1)) = ji15 := (i64_w _).trans hji15
            by_cases c16 : 0 ≤ (ji15)
            · rw [if_pos c16] at H
              have c16b0 : decide (0 ≤ (ji15)) = true := decide_eq_true c16
              clear c16
              by_cases c17 : (ji15) < (a0.size : Int)
              · rw [if_pos c17] at H
                have c17b0 : decide ((ji15) < (a0.size : Int)) = true := decide_eq_true c17
                clear c17
                replace H := Option.bind_eq_some_iff.mp H
                obtain ⟨t222, A190, H⟩ := H
                replace H : (if t222 = true then (if (a0.size : Int) > 2 then (if 0 ≤ (wrap64 ((a0.size : Int) - 2)) then (if (wrap64 ((a0.size : Int) - 2)) < (a0.size : Int) then ((regletref02_expo.f (bt a0 (wrap64 ((a0.size : Int) - 2)))).bind fun t223 => (if t223 = true then (if (wrap64 ((a0.size : Int) - 2)) ≤ (a0.size : Int) then ((regletref02_IsNumber.f kj6 (a0.extract 0 ((wrap64 ((a0.size : Int) - 2)) : Int).toNat)).bind fun t224 => (some t224)) else (none)) else (some false))) else (none)) else (none)) else (some false)) else ((regletref02_digit.f (bt a0 (ji15))).bind fun t225 => (if t225 = true then (if (ji15) ≤ (a0.size : Int) then ((regletref02_IsNumber.f kj6 (a0.extract 0 ((ji15) : Int).toNat)).bind fun t226 => (some t226)) else (none)) else ((regletref02_letter.f (bt a0 (ji15))).bind fun t227 => (if t227 = true then (if (ji15) ≤ (a0.size : Int) then ((regletref02_IsNumber.f kj6 (a0.extract 0 ((ji15) : Int).toNat)).bind fun t228 => (some t228)) else (none)) else (if (bt a0 (ji15)) = 46 then (if (ji15) ≤ (a0.size : Int) then ((regletref02_IsNumber.f kj6 (a0.extract 0 ((ji15) : Int).toNat)).bind fun t229 => (some t229)) else (none)) else (some false))))))) = some r := H
                have A19 := Aside0.mk A190
                clear A190
                by_cases c20 : t222 = true
                · subst c20
                  have H1 : (if (a0.size : Int) > 2 then (if 0 ≤ (wrap64 ((a0.size : Int) - 2)) then (if (wrap64 ((a0.size : Int) - 2)) < (a0.size : Int) then ((regletref02_expo.f (bt a0 (wrap64 ((a0.size : Int) - 2)))).bind fun t223 => (if t223 = true then (if (wrap64 ((a0.size : Int) - 2)) ≤ (a0.size : Int) then ((regletref02_IsNumber.f kj6 (a0.extract 0 ((wrap64 ((a0.size : Int) - 2)) : Int).toNat)).bind fun t224 => (some t224)) else (none)) else (some false))) else (none)) else (none)) else (some false)) = some r := by rw [if_pos rfl] at H; exact H
                  clear H
                  have H := H1
                  clear H1
                  by_cases c21 : (a0.size : Int) > 2
                  · rw [if_pos c21] at H
                    have c21b0 : decide (2 < (a0.size : Int)) = true := decide_eq_true c21
                    have c21b1 : decide (2 < a0.size) = true := decide_eq_true (by omega)
                    clear c21
                    obtain ⟨ji22, hji22⟩ : ∃ j_ : Int, (wrap64 ((a0.size : Int) - 2)) = j_ := ⟨_, rfl⟩
                    replace H : (if 0 ≤ (ji22) then (if (ji22) < (a0.size : Int) then ((regletref02_expo.f (bt a0 (ji22))).bind fun t223 => (if t223 = true then (if (ji22) ≤ (a0.size : Int) then ((regletref02_IsNumber.f kj6 (a0.extract 0 ((ji22) : Int).toNat)).bind fun t224 => (some t224)) else (none)) else (some false))) else (none)) else (none)) = some r := by first | (rw [hji22] at H; exact H) | (simp only [hji22] at H ⊢; exact H)
                    (try rw [hji22] at A19)
                    have hji22w : (IntKind.i64.wrap ((a0.size : Int) - 2)) = ji22 := (i64_w _).trans hji22
                    by_cases c23 : 0 ≤ (ji22)
                    · rw [if_pos c23] at H
                      have c23b0 : decide (0 ≤ (ji22)) = true := decide_eq_true c23
                      clear c23
                      by_cases c24 : (ji22) < (a0.size : Int)
                      · rw [if_pos c24] at H
                        have c24b0 : decide ((ji22) < (a0.size : Int)) = true := decide_eq_true c24
                        clear c24
                        replace H := Option.bind_eq_some_iff.mp H
                        obtain ⟨t223, A260, H⟩ := H
                        replace H : (if t223 = true then (if (ji22) ≤ (a0.size : Int) then ((regletref02_IsNumber.f kj6 (a0.extract 0 ((ji22) : Int).toNat)).bind fun t224 => (some t224)) else (none)) else (some false)) = some r := H
                        have A26 := Aside0.mk A260
                        clear A260
                        by_cases c27 : t223 = true
                        · subst c27
                          have H1 : (if (ji22) ≤ (a0.size : Int) then ((regletref02_IsNumber.f kj6 (a0.extract 0 ((ji22) : Int).toNat)).bind fun t224 => (some t224)) else (none)) = some r := by rw [if_pos rfl] at H; exact H
                          clear H
                          have H := H1
                          clear H1
                          have c28b0 := eq_true (odt : 0 ≤ (ji22))
                          by_cases c29 : (ji22) ≤ (a0.size : Int)
                          · rw [if_pos c29] at H
                            have c29b0 := eq_true c29
                            have c29b1 : decide ((ji22) ≤ (a0.size : Int)) = true := decide_eq_true c29
                            clear c29
                            replace H := Option.bind_eq_some_iff.mp H
                            obtain ⟨t224, A300, H⟩ := H
                            replace H : (some t224) = some r := H
                            have A30 := Aside0.mk A300
                            clear A300
                            obtain rfl := Option.some.inj H
                            have p18 : 0 ≤ ((ji15) : Int) := odt
                            have q18 : (ji15) < (a0.size : Int) := odt
                            have hx18 := bt_at a0 (ji15)
                            replace p18 := eq_true p18
                            replace q18 := eq_true q18
                            go_wp2_with (first | ((with_reducible refine gate_callee (f := 146) rfl ?_); refine goesL_ (some 28) rfl rfl Try.func146 (by kernel_rfl) rfl #[.int .u8 (bt a0 (ji15))] rfl (by (try simp only [List.map_toArray, List.map_cons, List.map_nil]); first | done | (simp only [hji15]; rfl) | rfl | (simp only [List.length_drop, List.length_take]; rfl)) ?_; (with_reducible refine (regletref02_sign.calls (bt a0 (ji15)) true _ A19.out).mono ?_); rintro e w' ⟨rfl, ⟨nd, rfl⟩⟩; refine ⟨_, rfl, ?_⟩; have p25 : 0 ≤ ((ji22) : Int) := odt; have q25 : (ji22) < (a0.size : Int) := odt; have hx25 := bt_at a0 (ji22); replace p25 := eq_true p25; replace q25 := eq_true q25) | (go_at_call 147; (with_reducible refine (regletref02_expo.calls (bt a0 (ji22)) true _ A26.out).mono ?_); rintro e w' ⟨rfl, ⟨nd, rfl⟩⟩) | (go_at_call 139; (with_reducible refine (ih kj6 (by have := HJ6.out; omega) (a0.extract 0 ((ji22) : Int).toNat) t224 _ A30.out).mono ?_); rintro e w' ⟨rfl, ⟨nd, rfl⟩⟩))
                            go_ret
                            exact ⟨by first | rfl | (simp; done) | (simp only [← hji15, ← hji22] <;> (first | rfl | simp)) | (simp [*]; done), by repeat (first | exact Drawn0.refl _ | apply Drawn0.step)⟩
                          · rw [if_neg c29] at H
                            exact absurd H (by simp)
                        · replace c27 := Bool.eq_false_iff.mpr c27
                          subst c27
                          have H1 : (some false) = some r := by rw [if_neg (show ¬ (false = true) by decide)] at H; exact H
                          clear H
                          have H := H1
                          clear H1
                          obtain rfl := Option.some.inj H
                          have p18 : 0 ≤ ((ji15) : Int) := odt
                          have q18 : (ji15) < (a0.size : Int) := odt
                          have hx18 := bt_at a0 (ji15)
                          replace p18 := eq_true p18
                          replace q18 := eq_true q18
                          go_wp2_with (first | ((with_reducible refine gate_callee (f := 146) rfl ?_); refine goesL_ (some 28) rfl rfl Try.func146 (by kernel_rfl) rfl #[.int .u8 (bt a0 (ji15))] rfl (by (try simp only [List.map_toArray, List.map_cons, List.map_nil]); first | done | (simp only [hji15]; rfl) | rfl | (simp only [List.length_drop, List.length_take]; rfl)) ?_; (with_reducible refine (regletref02_sign.calls (bt a0 (ji15)) true _ A19.out).mono ?_); rintro e w' ⟨rfl, ⟨nd, rfl⟩⟩; refine ⟨_, rfl, ?_⟩; have p25 : 0 ≤ ((ji22) : Int) := odt; have q25 : (ji22) < (a0.size : Int) := odt; have hx25 := bt_at a0 (ji22); replace p25 := eq_true p25; replace q25 := eq_true q25) | (go_at_call 147; (with_reducible refine (regletref02_expo.calls (bt a0 (ji22)) false _ A26.out).mono ?_); rintro e w' ⟨rfl, ⟨nd, rfl⟩⟩))
                          go_ret
                          exact ⟨by first | rfl | (simp; done) | (simp only [← hji15, ← hji22] <;> (first | rfl | simp)) | (simp [*]; done), by repeat (first | exact Drawn0.refl _ | apply Drawn0.step)⟩
                      · rw [if_neg c24] at H
                        exact absurd H (by simp)
                    · rw [if_neg c23] at H
                      exact absurd H (by simp)
                  · rw [if_neg c21] at H
                    have c21b0 : decide (2 < (a0.size : Int)) = false := decide_eq_false c21
                    have c21b1 : decide (2 < a0.size) = false := decide_eq_false (by omega)
                    clear c21
                    obtain rfl := Option.some.inj H
                    have p18 : 0 ≤ ((ji15) : Int) := odt
                    have q18 : (ji15) < (a0.size : Int) := odt
                    have hx18 := bt_at a0 (ji15)
                    replace p18 := eq_true p18
                    replace q18 := eq_true q18
                    go_wp2_with (first | ((with_reducible refine gate_callee (f := 146) rfl ?_); refine goesL_ (some 28) rfl rfl Try.func146 (by kernel_rfl) rfl #[.int .u8 (bt a0 (ji15))] rfl (by (try simp only [List.map_toArray, List.map_cons, List.map_nil]); first | done | (simp only [hji15]; rfl) | rfl | (simp only [List.length_drop, List.length_take]; rfl)) ?_; (with_reducible refine (regletref02_sign.calls (bt a0 (ji15)) true _ A19.out).mono ?_); rintro e w' ⟨rfl, ⟨nd, rfl⟩⟩; refine ⟨_, rfl, ?_⟩))
                    go_ret
                    exact ⟨by first | rfl | (simp; done) | (simp only [← hji15] <;> (first | rfl | simp)) | (simp [*]; done), by repeat (first | exact Drawn0.refl _ | apply Drawn0.step)⟩
                · replace c20 := Bool.eq_false_iff.mpr c20
                  subst c20
                  have H1 : ((regletref02_digit.f (bt a0 (ji15))).bind fun t225 => (if t225 = true then (if (ji15) ≤ (a0.size : Int) then ((regletref02_IsNumber.f kj6 (a0.extract 0 ((ji15) : Int).toNat)).bind fun t226 => (some t226)) else (none)) else ((regletref02_letter.f (bt a0 (ji15))).bind fun t227 => (if t227 = true then (if (ji15) ≤ (a0.size : Int) then ((regletref02_IsNumber.f kj6 (a0.extract 0 ((ji15) : Int).toNat)).bind fun t228 => (some t228)) else (none)) else (if (bt a0 (ji15)) = 46 then (if (ji15) ≤ (a0.size : Int) then ((regletref02_IsNumber.f kj6 (a0.extract 0 ((ji15) : Int).toNat)).bind fun t229 => (some t229)) else (none)) else (some false)))))) = some r := by rw [if_neg (show ¬ (false = true) by decide)] at H; exact H
                  clear H
                  have H := H1
                  clear H1
                  replace H := Option.bind_eq_some_iff.mp H
                  obtain ⟨t225, A320, H⟩ := H
                  replace H : (if t225 = true then (if (ji15) ≤ (a0.size : Int) then ((regletref02_IsNumber.f kj6 (a0.extract 0 ((ji15) : Int).toNat)).bind fun t226 => (some t226)) else (none)) else ((regletref02_letter.f (bt a0 (ji15))).bind fun t227 => (if t227 = true then (if (ji15) ≤ (a0.size : Int) then ((regletref02_IsNumber.f kj6 (a0.extract 0 ((ji15) : Int).toNat)).bind fun t228 => (some t228)) else (none)) else (if (bt a0 (ji15)) = 46 then (if (ji15) ≤ (a0.size : Int) then ((regletref02_IsNumber.f kj6 (a0.extract 0 ((ji15) : Int).toNat)).bind fun t229 => (some t229)) else (none)) else (some false))))) = some r := H
                  have A32 := Aside0.mk A320
                  clear A320
                  by_cases c33 : t225 = true
                  · subst c33
                    have H1 : (if (ji15) ≤ (a0.size : Int) then ((regletref02_IsNumber.f kj6 (a0.extract 0 ((ji15) : Int).toNat)).bind fun t226 => (some t226)) else (none)) = some r := by rw [if_pos rfl] at H; exact H
                    clear H
                    have H := H1
                    clear H1
                    have c34b0 := eq_true (odt : 0 ≤ (ji15))
                    by_cases c35 : (ji15) ≤ (a0.size : Int)
                    · rw [if_pos c35] at H
                      have c35b0 := eq_true c35
                      have c35b1 : decide ((ji15) ≤ (a0.size : Int)) = true := decide_eq_true c35
                      clear c35
                      replace H := Option.bind_eq_some_iff.mp H
                      obtain ⟨t226, A360, H⟩ := H
                      replace H : (some t226) = some r := H
                      have A36 := Aside0.mk A360
                      clear A360
                      obtain rfl := Option.some.inj H
                      have p18 : 0 ≤ ((ji15) : Int) := odt
                      have q18 : (ji15) < (a0.size : Int) := odt
                      have hx18 := bt_at a0 (ji15)
                      replace p18 := eq_true p18
                      replace q18 := eq_true q18
                      go_wp2_with (first | ((with_reducible refine gate_callee (f := 146) rfl ?_); refine goesL_ (some 28) rfl rfl Try.func146 (by kernel_rfl) rfl #[.int .u8 (bt a0 (ji15))] rfl (by (try simp only [List.map_toArray, List.map_cons, List.map_nil]); first | done | (simp only [hji15]; rfl) | rfl | (simp only [List.length_drop, List.length_take]; rfl)) ?_; (with_reducible refine (regletref02_sign.calls (bt a0 (ji15)) false _ A19.out).mono ?_); rintro e w' ⟨rfl, ⟨nd, rfl⟩⟩; refine ⟨_, rfl, ?_⟩; have p31 : 0 ≤ ((ji15) : Int) := odt; have q31 : (ji15) < (a0.size : Int) := odt; have hx31 := bt_at a0 (ji15); replace p31 := eq_true p31; replace q31 := eq_true q31) | ((with_reducible refine gate_callee (f := 145) rfl ?_); refine goesL_ (some 50) rfl rfl Try.func145 (by kernel_rfl) rfl #[.int .u8 (bt a0 (ji15))] rfl (by (try simp only [List.map_toArray, List.map_cons, List.map_nil]); first | done | (simp only [hji15]; rfl) | rfl | (simp only [List.length_drop, List.length_take]; rfl)) ?_; (with_reducible refine (regletref02_digit.calls (bt a0 (ji15)) true _ A32.out).mono ?_); rintro e w' ⟨rfl, ⟨nd, rfl⟩⟩; refine ⟨_, rfl, ?_⟩) | (go_at_call 139; (with_reducible refine (ih kj6 (by have := HJ6.out; omega) (a0.extract 0 ((ji15) : Int).toNat) t226 _ A36.out).mono ?_); rintro e w' ⟨rfl, ⟨nd, rfl⟩⟩))
                      go_ret
                      exact ⟨by first | rfl | (simp; done) | (simp only [← hji15] <;> (first | rfl | simp)) | (simp [*]; done), by repeat (first | exact Drawn0.refl _ | apply Drawn0.step)⟩
                    · rw [if_neg c35] at H
                      exact absurd H (by simp)
                  · replace c33 := Bool.eq_false_iff.mpr c33
                    subst c33
                    have H1 : ((regletref02_letter.f (bt a0 (ji15))).bind fun t227 => (if t227 = true then (if (ji15) ≤ (a0.size : Int) then ((regletref02_IsNumber.f kj6 (a0.extract 0 ((ji15) : Int).toNat)).bind fun t228 => (some t228)) else (none)) else (if (bt a0 (ji15)) = 46 then (if (ji15) ≤ (a0.size : Int) then ((regletref02_IsNumber.f kj6 (a0.extract 0 ((ji15) : Int).toNat)).bind fun t229 => (some t229)) else (none)) else (some false)))) = some r := by rw [if_neg (show ¬ (false = true) by decide)] at H; exact H
                    clear H
                    have H := H1
                    clear H1
                    replace H := Option.bind_eq_some_iff.mp H
                    obtain ⟨t227, A370, H⟩ := H
                    replace H : (if t227 = true then (if (ji15) ≤ (a0.size : Int) then ((regletref02_IsNumber.f kj6 (a0.extract 0 ((ji15) : Int).toNat)).bind fun t228 => (some t228)) else (none)) else (if (bt a0 (ji15)) = 46 then (if (ji15) ≤ (a0.size : Int) then ((regletref02_IsNumber.f kj6 (a0.extract 0 ((ji15) : Int).toNat)).bind fun t229 => (some t229)) else (none)) else (some false))) = some r := H
                    have A37 := Aside0.mk A370
                    clear A370
                    by_cases c38 : t227 = true
                    · subst c38
                      have H1 : (if (ji15) ≤ (a0.size : Int) then ((regletref02_IsNumber.f kj6 (a0.extract 0 ((ji15) : Int).toNat)).bind fun t228 => (some t228)) else (none)) = some r := by rw [if_pos rfl] at H; exact H
                      clear H
                      have H := H1
                      clear H1
                      have c39b0 := eq_true (odt : 0 ≤ (ji15))
                      by_cases c40 : (ji15) ≤ (a0.size : Int)
                      · rw [if_pos c40] at H
                        have c40b0 := eq_true c40
                        have c40b1 : decide ((ji15) ≤ (a0.size : Int)) = true := decide_eq_true c40
                        clear c40
                        replace H := Option.bind_eq_some_iff.mp H
                        obtain ⟨t228, A410, H⟩ := H
                        replace H : (some t228) = some r := H
                        have A41 := Aside0.mk A410
                        clear A410
                        obtain rfl := Option.some.inj H
                        have p18 : 0 ≤ ((ji15) : Int) := odt
                        have q18 : (ji15) < (a0.size : Int) := odt
                        have hx18 := bt_at a0 (ji15)
                        replace p18 := eq_true p18
                        replace q18 := eq_true q18
                        go_wp2_with (first | ((with_reducible refine gate_callee (f := 146) rfl ?_); refine goesL_ (some 28) rfl rfl Try.func146 (by kernel_rfl) rfl #[.int .u8 (bt a0 (ji15))] rfl (by (try simp only [List.map_toArray, List.map_cons, List.map_nil]); first | done | (simp only [hji15]; rfl) | rfl | (simp only [List.length_drop, List.length_take]; rfl)) ?_; (with_reducible refine (regletref02_sign.calls (bt a0 (ji15)) false _ A19.out).mono ?_); rintro e w' ⟨rfl, ⟨nd, rfl⟩⟩; refine ⟨_, rfl, ?_⟩; have p31 : 0 ≤ ((ji15) : Int) := odt; have q31 : (ji15) < (a0.size : Int) := odt; have hx31 := bt_at a0 (ji15); replace p31 := eq_true p31; replace q31 := eq_true q31) | ((with_reducible refine gate_callee (f := 145) rfl ?_); refine goesL_ (some 50) rfl rfl Try.func145 (by kernel_rfl) rfl #[.int .u8 (bt a0 (ji15))] rfl (by (try simp only [List.map_toArray, List.map_cons, List.map_nil]); first | done | (simp only [hji15]; rfl) | rfl | (simp only [List.length_drop, List.length_take]; rfl)) ?_; (with_reducible refine (regletref02_digit.calls (bt a0 (ji15)) false _ A32.out).mono ?_); rintro e w' ⟨rfl, ⟨nd, rfl⟩⟩; refine ⟨_, rfl, ?_⟩) | (go_at_call 144; (with_reducible refine (regletref02_letter.calls (bt a0 (ji15)) true _ A37.out).mono ?_); rintro e w' ⟨rfl, ⟨nd, rfl⟩⟩) | (go_at_call 139; (with_reducible refine (ih kj6 (by have := HJ6.out; omega) (a0.extract 0 ((ji15) : Int).toNat) t228 _ A41.out).mono ?_); rintro e w' ⟨rfl, ⟨nd, rfl⟩⟩))
                        go_ret
                        exact ⟨by first | rfl | (simp; done) | (simp only [← hji15] <;> (first | rfl | simp)) | (simp [*]; done), by repeat (first | exact Drawn0.refl _ | apply Drawn0.step)⟩
                      · rw [if_neg c40] at H
                        exact absurd H (by simp)
                    · replace c38 := Bool.eq_false_iff.mpr c38
                      subst c38
                      have H1 : (if (bt a0 (ji15)) = 46 then (if (ji15) ≤ (a0.size : Int) then ((regletref02_IsNumber.f kj6 (a0.extract 0 ((ji15) : Int).toNat)).bind fun t229 => (some t229)) else (none)) else (some false)) = some r := by rw [if_neg (show ¬ (false = true) by decide)] at H; exact H
                      clear H
                      have H := H1
                      clear H1
                      by_cases c42 : (bt a0 (ji15)) = 46
                      · rw [if_pos c42] at H
                        have c42b0 : ((bt a0 (ji15)) == 46) = true := beq_iff_eq.mpr c42
                        have c42b1 : ((bt a0 (ji15)) != 46) = false := bne_eq_false_iff_eq.mpr c42
                        clear c42
                        have c43b0 := eq_true (odt : 0 ≤ (ji15))
                        by_cases c44 : (ji15) ≤ (a0.size : Int)
                        · rw [if_pos c44] at H
                          have c44b0 := eq_true c44
                          have c44b1 : decide ((ji15) ≤ (a0.size : Int)) = true := decide_eq_true c44
                          clear c44
                          replace H := Option.bind_eq_some_iff.mp H
                          obtain ⟨t229, A450, H⟩ := H
                          replace H : (some t229) = some r := H
                          have A45 := Aside0.mk A450
                          clear A450
                          obtain rfl := Option.some.inj H
                          have p18 : 0 ≤ ((ji15) : Int) := odt
                          have q18 : (ji15) < (a0.size : Int) := odt
                          have hx18 := bt_at a0 (ji15)
                          replace p18 := eq_true p18
                          replace q18 := eq_true q18
                          go_wp2_with (first | ((with_reducible refine gate_callee (f := 146) rfl ?_); refine goesL_ (some 28) rfl rfl Try.func146 (by kernel_rfl) rfl #[.int .u8 (bt a0 (ji15))] rfl (by (try simp only [List.map_toArray, List.map_cons, List.map_nil]); first | done | (simp only [hji15]; rfl) | rfl | (simp only [List.length_drop, List.length_take]; rfl)) ?_; (with_reducible refine (regletref02_sign.calls (bt a0 (ji15)) false _ A19.out).mono ?_); rintro e w' ⟨rfl, ⟨nd, rfl⟩⟩; refine ⟨_, rfl, ?_⟩; have p31 : 0 ≤ ((ji15) : Int) := odt; have q31 : (ji15) < (a0.size : Int) := odt; have hx31 := bt_at a0 (ji15); replace p31 := eq_true p31; replace q31 := eq_true q31) | ((with_reducible refine gate_callee (f := 145) rfl ?_); refine goesL_ (some 50) rfl rfl Try.func145 (by kernel_rfl) rfl #[.int .u8 (bt a0 (ji15))] rfl (by (try simp only [List.map_toArray, List.map_cons, List.map_nil]); first | done | (simp only [hji15]; rfl) | rfl | (simp only [List.length_drop, List.length_take]; rfl)) ?_; (with_reducible refine (regletref02_digit.calls (bt a0 (ji15)) false _ A32.out).mono ?_); rintro e w' ⟨rfl, ⟨nd, rfl⟩⟩; refine ⟨_, rfl, ?_⟩) | (go_at_call 144; (with_reducible refine (regletref02_letter.calls (bt a0 (ji15)) false _ A37.out).mono ?_); rintro e w' ⟨rfl, ⟨nd, rfl⟩⟩) | (go_at_call 139; (with_reducible refine (ih kj6 (by have := HJ6.out; omega) (a0.extract 0 ((ji15) : Int).toNat) t229 _ A45.out).mono ?_); rintro e w' ⟨rfl, ⟨nd, rfl⟩⟩))
                          go_ret
                          exact ⟨by first | rfl | (simp; done) | (simp only [← hji15] <;> (first | rfl | simp)) | (simp [*]; done), by repeat (first | exact Drawn0.refl _ | apply Drawn0.step)⟩
                        · rw [if_neg c44] at H
                          exact absurd H (by simp)
                      · rw [if_neg c42] at H
                        have c42b0 : ((bt a0 (ji15)) == 46) = false := beq_eq_false_iff_ne.mpr c42
                        have c42b1 : ((bt a0 (ji15)) != 46) = true := bne_iff_ne.mpr c42
                        obtain rfl := Option.some.inj H
                        have p18 : 0 ≤ ((ji15) : Int) := odt
                        have q18 : (ji15) < (a0.size : Int) := odt
                        have hx18 := bt_at a0 (ji15)
                        replace p18 := eq_true p18
                        replace q18 := eq_true q18
                        go_wp2_with (first | ((with_reducible refine gate_callee (f := 146) rfl ?_); refine goesL_ (some 28) rfl rfl Try.func146 (by kernel_rfl) rfl #[.int .u8 (bt a0 (ji15))] rfl (by (try simp only [List.map_toArray, List.map_cons, List.map_nil]); first | done | (simp only [hji15]; rfl) | rfl | (simp only [List.length_drop, List.length_take]; rfl)) ?_; (with_reducible refine (regletref02_sign.calls (bt a0 (ji15)) false _ A19.out).mono ?_); rintro e w' ⟨rfl, ⟨nd, rfl⟩⟩; refine ⟨_, rfl, ?_⟩; have p31 : 0 ≤ ((ji15) : Int) := odt; have q31 : (ji15) < (a0.size : Int) := odt; have hx31 := bt_at a0 (ji15); replace p31 := eq_true p31; replace q31 := eq_true q31) | ((with_reducible refine gate_callee (f := 145) rfl ?_); refine goesL_ (some 50) rfl rfl Try.func145 (by kernel_rfl) rfl #[.int .u8 (bt a0 (ji15))] rfl (by (try simp only [List.map_toArray, List.map_cons, List.map_nil]); first | done | (simp only [hji15]; rfl) | rfl | (simp only [List.length_drop, List.length_take]; rfl)) ?_; (with_reducible refine (regletref02_digit.calls (bt a0 (ji15)) false _ A32.out).mono ?_); rintro e w' ⟨rfl, ⟨nd, rfl⟩⟩; refine ⟨_, rfl, ?_⟩) | (go_at_call 144; (with_reducible refine (regletref02_letter.calls (bt a0 (ji15)) false _ A37.out).mono ?_); rintro e w' ⟨rfl, ⟨nd, rfl⟩⟩))
                        go_ret
                        exact ⟨by first | rfl | (simp; done) | (simp only [← hji15] <;> (first | rfl | simp)) | (simp [*]; done), by repeat (first | exact Drawn0.refl _ | apply Drawn0.step)⟩
              · rw [if_neg c17] at H
                exact absurd H (by simp)
            · rw [if_neg c16] at H
              exact absurd H (by simp)

end Go.Proofs.Ytonfmnohmigjpaa.P
namespace Go.Proofs.Ytonfmnohmigjpaa.P
open Go.RowKit Go.Proofs.YtonfmnohmigjpaaW.PrintWords Go.Proofs.YtonfmnohmigjpaaW.PrintLast
set_option linter.unusedVariables false
set_option linter.unusedSimpArgs false

/-! ### regletref02_IsPunct: function 141 -/
mutual
def regletref02_IsPunct.j0 : Nat → ByteArray → ByteArray → Bool → Option (Bool)
  | 0, _, _, _ => none
  | k + 1, x0, x3, x16 => if x16 = true then (some false) else (regletref02_IsPunct.l0 k x0 x3 0)
def regletref02_IsPunct.l0 : Nat → ByteArray → ByteArray → Int → Option (Bool)
  | 0, _, _, _ => none
  | k + 1, x0, x3, x4 => if x4 < (x0.size : Int) then (if 0 ≤ x4 then (if (bt x0 x4) = 32 then (some false) else (regletref02_IsPunct.l0 k x0 x3 (wrap64 (x4 + 1)))) else (none)) else (regletref02_IsPunct.l1 k x3 0)
def regletref02_IsPunct.l1 : Nat → ByteArray → Int → Option (Bool)
  | 0, _, _ => none
  | k + 1, x3, x5 => if (wrap64 (x5 + (x3.size : Int))) ≤ 143 then (if 0 ≤ x5 then (if x5 ≤ (wrap64 (x5 + (x3.size : Int))) then (if ((⟨#[32, 91, 32, 93, 32, 40, 32, 41, 32, 123, 32, 125, 32, 46, 32, 45, 62, 32, 43, 43, 32, 45, 45, 32, 38, 32, 42, 32, 43, 32, 45, 32, 126, 32, 33, 32, 47, 32, 37, 32, 60, 60, 32, 62, 62, 32, 60, 32, 62, 32, 60, 61, 32, 62, 61, 32, 61, 61, 32, 33, 61, 32, 94, 32, 124, 32, 38, 38, 32, 124, 124, 32, 63, 32, 58, 32, 59, 32, 46, 46, 46, 32, 61, 32, 42, 61, 32, 47, 61, 32, 37, 61, 32, 43, 61, 32, 45, 61, 32, 60, 60, 61, 32, 62, 62, 61, 32, 38, 61, 32, 94, 61, 32, 124, 61, 32, 44, 32, 35, 32, 35, 35, 32, 60, 58, 32, 58, 62, 32, 60, 37, 32, 37, 62, 32, 37, 58, 32, 37, 58, 37, 58, 32]⟩ : ByteArray).extract (x5 : Int).toNat ((wrap64 (x5 + (x3.size : Int))) : Int).toNat).toList = x3.toList then (some true) else (regletref02_IsPunct.l1 k x3 (wrap64 (x5 + 1)))) else (none)) else (none)) else (some false)
end
def regletref02_IsPunct.f (k : Nat) (a0 : ByteArray) : Option (Bool) := if 1 + a0.size ≤ 9223372036854775807 then (if ((⟨#[32]⟩ : ByteArray) ++ a0).size + 1 ≤ 9223372036854775807 then (if (a0.size : Int) = 0 then (regletref02_IsPunct.j0 k a0 (((⟨#[32]⟩ : ByteArray) ++ a0) ++ (⟨#[32]⟩ : ByteArray)) true) else (regletref02_IsPunct.j0 k a0 (((⟨#[32]⟩ : ByteArray) ++ a0) ++ (⟨#[32]⟩ : ByteArray)) (decide ((a0.size : Int) > 4)))) else (none)) else (none)
theorem regletref02_IsPunct.mono_l : ∀ k, (∀ y0 y1 y2, LeO (regletref02_IsPunct.j0 k y0 y1 y2) (regletref02_IsPunct.j0 (k + 1) y0 y1 y2)) ∧ (∀ y0 y1 y2, LeO (regletref02_IsPunct.l0 k y0 y1 y2) (regletref02_IsPunct.l0 (k + 1) y0 y1 y2)) ∧ (∀ y0 y1, LeO (regletref02_IsPunct.l1 k y0 y1) (regletref02_IsPunct.l1 (k + 1) y0 y1))
  | 0 => ⟨fun _ _ _ r h => by simp [regletref02_IsPunct.j0] at h, fun _ _ _ r h => by simp [regletref02_IsPunct.l0] at h, fun _ _ r h => by simp [regletref02_IsPunct.l1] at h⟩
  | k + 1 => by
    obtain ⟨ih0, ih1, ih2⟩ := regletref02_IsPunct.mono_l k
    refine ⟨?_, ?_, ?_⟩
    · intro y0 y1 y2
      unfold regletref02_IsPunct.j0
      repeat' first
      | (with_reducible exact ih0 _ _ _)
      | (with_reducible exact ih1 _ _ _)
      | (with_reducible exact ih2 _ _)
      | (with_reducible exact LeO.refl _)
      | (with_reducible exact LeO.none _)
      | (with_reducible refine LeO.ite ?_ ?_)
      | (with_reducible refine LeO.bind ?_ (fun _ => ?_))
      | exact ih0 _ _ _
      | exact ih1 _ _ _
      | exact ih2 _ _
      | exact LeO.none _
      | refine LeO.ite ?_ ?_
      | refine LeO.bind ?_ (fun _ => ?_)
    · intro y0 y1 y2
      unfold regletref02_IsPunct.l0
      repeat' first
      | (with_reducible exact ih0 _ _ _)
      | (with_reducible exact ih1 _ _ _)
      | (with_reducible exact ih2 _ _)
      | (with_reducible exact LeO.refl _)
      | (with_reducible exact LeO.none _)
      | (with_reducible refine LeO.ite ?_ ?_)
      | (with_reducible refine LeO.bind ?_ (fun _ => ?_))
      | exact ih0 _ _ _
      | exact ih1 _ _ _
      | exact ih2 _ _
      | exact LeO.none _
      | refine LeO.ite ?_ ?_
      | refine LeO.bind ?_ (fun _ => ?_)
    · intro y0 y1
      unfold regletref02_IsPunct.l1
      repeat' first
      | (with_reducible exact ih0 _ _ _)
      | (with_reducible exact ih1 _ _ _)
      | (with_reducible exact ih2 _ _)
      | (with_reducible exact LeO.refl _)
      | (with_reducible exact LeO.none _)
      | (with_reducible refine LeO.ite ?_ ?_)
      | (with_reducible refine LeO.bind ?_ (fun _ => ?_))
      | exact ih0 _ _ _
      | exact ih1 _ _ _
      | exact ih2 _ _
      | exact LeO.none _
      | refine LeO.ite ?_ ?_
      | refine LeO.bind ?_ (fun _ => ?_)
theorem regletref02_IsPunct.mono : ∀ a0 k, LeO (regletref02_IsPunct.f k a0) (regletref02_IsPunct.f (k + 1) a0) := by
  intro a0 k
  obtain ⟨ih0, ih1, ih2⟩ := regletref02_IsPunct.mono_l k
  unfold regletref02_IsPunct.f
  repeat' first
      | (with_reducible exact ih0 _ _ _)
      | (with_reducible exact ih1 _ _ _)
      | (with_reducible exact ih2 _ _)
      | (with_reducible exact LeO.refl _)
      | (with_reducible exact LeO.none _)
      | (with_reducible refine LeO.ite ?_ ?_)
      | (with_reducible refine LeO.bind ?_ (fun _ => ?_))
      | exact ih0 _ _ _
      | exact ih1 _ _ _
      | exact ih2 _ _
      | exact LeO.none _
      | refine LeO.ite ?_ ?_
      | refine LeO.bind ?_ (fun _ => ?_)
set_option maxHeartbeats 8000000 in
set_option maxRecDepth 100000 in
theorem regletref02_IsPunct.calls (k : Nat) (a0 : ByteArray) (r : Bool) (w : World) (h : regletref02_IsPunct.f k a0 = some r) :
    Calls Try.prog 141 #[.string a0] w fun e w' => e = .returned (.bool r) ∧ Drawn0 w w' := by
  have H : (if 1 + a0.size ≤ 9223372036854775807 then (if ((⟨#[32]⟩ : ByteArray) ++ a0).size + 1 ≤ 9223372036854775807 then (if (a0.size : Int) = 0 then (regletref02_IsPunct.j0 k a0 (((⟨#[32]⟩ : ByteArray) ++ a0) ++ (⟨#[32]⟩ : ByteArray)) true) else (regletref02_IsPunct.j0 k a0 (((⟨#[32]⟩ : ByteArray) ++ a0) ++ (⟨#[32]⟩ : ByteArray)) (decide ((a0.size : Int) > 4)))) else (none)) else (none)) = some r := h
  clear h
  by_cases c2 : 1 + a0.size ≤ 9223372036854775807
  · rw [if_pos c2] at H
    have c2b0 := eq_true c2
    have c2b1 : decide (1 + a0.size ≤ 9223372036854775807) = true := decide_eq_true c2
    try have c2b2 : (9223372036854775807 < 1 + a0.size) = False := eq_false (Nat.not_lt.2 c2)
    by_cases c3 : ((⟨#[32]⟩ : ByteArray) ++ a0).size + 1 ≤ 9223372036854775807
    · rw [if_pos c3] at H
      have c3b0 := eq_true c3
      have c3b1 : decide (((⟨#[32]⟩ : ByteArray) ++ a0).size + 1 ≤ 9223372036854775807) = true := decide_eq_true c3
      try have c3b2 : (9223372036854775807 < ((⟨#[32]⟩ : ByteArray) ++ a0).size + 1) = False := eq_false (Nat.not_lt.2 c3)
      have c3b3 : (9223372036854775807 < 1 + a0.size + 1) = False := eq_false (Nat.not_lt.2 (by rw [ByteArray.size_append] at c3; exact c3))
      have HC4 := Aside0.mk H
      clear H
      go_enter Try.func141, Try.ntmps141
      go_upto_region 2 with (fail)
      go_cut [16] (fun v16 wc => ∃ (kq : Nat) (x16_3 : Bool), v16 = .bool x16_3 ∧ Aside0 (regletref02_IsPunct.j0 kq a0 (((⟨#[32]⟩ : ByteArray) ++ a0) ++ (⟨#[32]⟩ : ByteArray)) x16_3 = some r) ∧ Aside0 (kq ≤ k) ∧ Drawn0 w wc)
      case first =>
        have H := HC4.out
        clear HC4
        by_cases c5 : (a0.size : Int) = 0
        · rw [if_pos c5] at H
          have c5b0 : ((a0.size : Int) == 0) = true := beq_iff_eq.mpr c5
          have c5b1 : ((a0.size : Int) != 0) = false := bne_eq_false_iff_eq.mpr c5
          clear c5
          (first | rw [c5b0] | (simp only [i64_w, i32_w]; rw [c5b0]) | skip)
          have H' := Aside0.mk H
          clear H
          go_wp2
          go_meet
          case rel => exact ⟨_, (true), (by first | rfl | (simp; done) | (simp [*]; done)), H', ⟨by first | omega | exact Nat.le_refl _⟩, by repeat (first | exact Drawn0.refl _ | apply Drawn0.step)⟩
        · rw [if_neg c5] at H
          have c5b0 : ((a0.size : Int) == 0) = false := beq_eq_false_iff_ne.mpr c5
          have c5b1 : ((a0.size : Int) != 0) = true := bne_iff_ne.mpr c5
          (first | rw [c5b0] | (simp only [i64_w, i32_w]; rw [c5b0]) | skip)
          have H' := Aside0.mk H
          clear H
          go_wp2
          go_meet
          case rel => exact ⟨_, (decide ((a0.size : Int) > 4)), (by first | rfl | (simp; done) | (simp [*]; done)), H', ⟨by first | omega | exact Nat.le_refl _⟩, by repeat (first | exact Drawn0.refl _ | apply Drawn0.step)⟩
      case rest =>
        clear HC4
        try clear c1
        try clear c2
        try clear c2b0
        try clear c2b1
        try clear c2b2
        try clear p2
        try clear c3
        try clear c3b0
        try clear c3b1
        try clear c3b2
        try clear c5
        try clear c5b0
        try clear c5b1
        obtain ⟨kq, x16_3, rfl, HA, HJ3, ⟨mc3, rfl⟩⟩ := hcut
        cases kq with
        | zero => exact absurd HA.out (by simp [regletref02_IsPunct.j0])
        | succ kj3 =>
          have H := HA.out
          clear HA
          simp only [regletref02_IsPunct.j0] at H
          by_cases c6 : x16_3 = true
          · subst c6
            have H1 : (some false) = some r := by rw [if_pos rfl] at H; exact H
            clear H
            have H := H1
            clear H1
            obtain rfl := Option.some.inj H
            go_wp2
            go_ret
            exact ⟨by first | rfl | (simp; done) | (simp [*]; done), by repeat (first | exact Drawn0.refl _ | apply Drawn0.step)⟩
          · replace c6 := Bool.eq_false_iff.mpr c6
            subst c6
            have H1 : (regletref02_IsPunct.l0 kj3 a0 (((⟨#[32]⟩ : ByteArray) ++ a0) ++ (⟨#[32]⟩ : ByteArray)) 0) = some r := by rw [if_neg (show ¬ (false = true) by decide)] at H; exact H
            clear H
            have H := H1
            clear H1
            have H' := Aside0.mk H
            clear H
            go_wp2
            go_loopg [4] kj3 (fun kq v4 w' => ∃ (x4_2 : Int), v4 = .int .i64 x4_2 ∧ Aside0 (regletref02_IsPunct.l0 kq a0 (((⟨#[32]⟩ : ByteArray) ++ a0) ++ (⟨#[32]⟩ : ByteArray)) x4_2 = some r) ∧ Aside0 (kq ≤ kj3) ∧ Drawn0 w w')
            case atStart => exact ⟨(0), (by first | rfl | (simp; done) | (simp [*]; done)), H', ⟨Nat.le_refl _⟩, by repeat (first | exact Drawn0.refl _ | apply Drawn0.step)⟩
            case round =>
              clear H'
              try clear c1
              try clear c2
              try clear c2b0
              try clear c2b1
              try clear c2b2
              try clear p2
              try clear c3
              try clear c3b0
              try clear c3b1
              try clear c3b2
              try clear c5
              try clear c5b0
              try clear c5b1
              try clear c6
              try clear p2
              obtain ⟨x4_2, rfl, HA, HK2, ⟨m2, rfl⟩⟩ := hrel
              cases gk with
              | zero => exact absurd HA.out (by simp [regletref02_IsPunct.l0])
              | succ k2 =>
                have H := HA.out
                clear HA
                simp only [regletref02_IsPunct.l0] at H
                by_cases c7 : x4_2 < (a0.size : Int)
                · rw [if_pos c7] at H
                  have c7b0 : decide (x4_2 < (a0.size : Int)) = true := decide_eq_true c7
                  clear c7
                  by_cases c8 : 0 ≤ x4_2
                  · rw [if_pos c8] at H
                    have c8b0 : decide (0 ≤ x4_2) = true := decide_eq_true c8
                    clear c8
                    by_cases c10 : (bt a0 x4_2) = 32
                    · rw [if_pos c10] at H
                      have c10b0 : ((bt a0 x4_2) == 32) = true := beq_iff_eq.mpr c10
                      have c10b1 : ((bt a0 x4_2) != 32) = false := bne_eq_false_iff_eq.mpr c10
                      clear c10
                      obtain rfl := Option.some.inj H
                      have p9 : 0 ≤ (x4_2 : Int) := odt
                      have q9 : x4_2 < (a0.size : Int) := odt
                      have hx9 := bt_at a0 x4_2
                      replace p9 := eq_true p9
                      replace q9 := eq_true q9
                      go_wp2
                      go_ret
                      exact ⟨by first | rfl | (simp; done) | (simp [*]; done), by repeat (first | exact Drawn0.refl _ | apply Drawn0.step)⟩
                    · rw [if_neg c10] at H
                      have c10b0 : ((bt a0 x4_2) == 32) = false := beq_eq_false_iff_ne.mpr c10
                      have c10b1 : ((bt a0 x4_2) != 32) = true := bne_iff_ne.mpr c10
                      have H' := Aside0.mk H
                      clear H
                      have p9 : 0 ≤ (x4_2 : Int) := odt
                      have q9 : x4_2 < (a0.size : Int) := odt
                      have hx9 := bt_at a0 x4_2
                      replace p9 := eq_true p9
                      replace q9 := eq_true q9
                      go_wp2
                      go_roundg k2
                      case measure => have := HJ3.out; have := HK2.out; omega
                      case rel => exact ⟨(wrap64 (x4_2 + 1)), (by first | rfl | (simp; done) | (simp [*]; done)), H', ⟨by have := HJ3.out; have := HK2.out; omega⟩, by repeat (first | exact Drawn0.refl _ | apply Drawn0.step)⟩
                  · rw [if_neg c8] at H
                    exact absurd H (by simp)
                · rw [if_neg c7] at H
                  have c7b0 : decide (x4_2 < (a0.size : Int)) = false := decide_eq_false c7
                  clear c7
                  have H' := Aside0.mk H
                  clear H
                  go_wp2
                  generalize (((⟨#[32]⟩ : ByteArray) ++ a0) ++ (⟨#[32]⟩ : ByteArray)) = wd at *
                  go_loopg [5] k2 (fun kq v5 w' => ∃ (x5_3 : Int), v5 = .int .i64 x5_3 ∧ Aside0 (regletref02_IsPunct.l1 kq wd x5_3 = some r) ∧ Aside0 (kq ≤ k2) ∧ Drawn0 w w')
                  case atStart => exact ⟨(0), (by first | rfl | (simp; done) | (simp [*]; done)), H', ⟨Nat.le_refl _⟩, by repeat (first | exact Drawn0.refl _ | apply Drawn0.step)⟩
                  case round =>
                    clear H'
                    try clear c1
                    try clear c2
                    try clear c2b0
                    try clear c2b1
                    try clear c2b2
                    try clear p2
                    try clear c3
                    try clear c3b0
                    try clear c3b1
                    try clear c3b2
                    try clear c5
                    try clear c5b0
                    try clear c5b1
                    try clear c6
                    try clear p6
                    try clear c7
                    try clear c7b0
                    try clear c8
                    try clear c8b0
                    try clear p9
                    try clear q9
                    try clear hx9
                    try clear c10
                    try clear c10b0
                    try clear c10b1
                    try clear p2
                    try clear p9
                    try clear q9
                    obtain ⟨x5_3, rfl, HA, HK3, ⟨m3, rfl⟩⟩ := hrel
                    cases gk with
                    | zero => exact absurd HA.out (by simp [regletref02_IsPunct.l1])
                    | succ k3 =>
                      have H := HA.out
                      clear HA
                      simp only [regletref02_IsPunct.l1] at H
                      by_cases c11 : (wrap64 (x5_3 + (wd.size : Int))) ≤ 143
                      · rw [if_pos c11] at H
                        have c11b0 : decide ((wrap64 (x5_3 + (wd.size : Int))) ≤ 143) = true := decide_eq_true c11
                        clear c11
                        by_cases c12 : 0 ≤ x5_3
                        · rw [if_pos c12] at H
                          have c12b0 := eq_true c12
                          have c12b1 : decide (0 ≤ x5_3) = true := decide_eq_true c12
                          clear c12
                          by_cases c13 : x5_3 ≤ (wrap64 (x5_3 + (wd.size : Int)))
                          · rw [if_pos c13] at H
                            have c13b0 := eq_true c13
                            have c13b1 : decide (x5_3 ≤ (wrap64 (x5_3 + (wd.size : Int)))) = true := decide_eq_true c13
                            have c14b0 := eq_true (odt : (wrap64 (x5_3 + (wd.size : Int))) ≤ 143)
                            by_cases c15 : ((⟨#[32, 91, 32, 93, 32, 40, 32, 41, 32, 123, 32, 125, 32, 46, 32, 45, 62, 32, 43, 43, 32, 45, 45, 32, 38, 32, 42, 32, 43, 32, 45, 32, 126, 32, 33, 32, 47, 32, 37, 32, 60, 60, 32, 62, 62, 32, 60, 32, 62, 32, 60, 61, 32, 62, 61, 32, 61, 61, 32, 33, 61, 32, 94, 32, 124, 32, 38, 38, 32, 124, 124, 32, 63, 32, 58, 32, 59, 32, 46, 46, 46, 32, 61, 32, 42, 61, 32, 47, 61, 32, 37, 61, 32, 43, 61, 32, 45, 61, 32, 60, 60, 61, 32, 62, 62, 61, 32, 38, 61, 32, 94, 61, 32, 124, 61, 32, 44, 32, 35, 32, 35, 35, 32, 60, 58, 32, 58, 62, 32, 60, 37, 32, 37, 62, 32, 37, 58, 32, 37, 58, 37, 58, 32]⟩ : ByteArray).extract (x5_3 : Int).toNat ((wrap64 (x5_3 + (wd.size : Int))) : Int).toNat).toList = wd.toList
                            · rw [if_pos c15] at H
                              have c15b0 : (((⟨#[32, 91, 32, 93, 32, 40, 32, 41, 32, 123, 32, 125, 32, 46, 32, 45, 62, 32, 43, 43, 32, 45, 45, 32, 38, 32, 42, 32, 43, 32, 45, 32, 126, 32, 33, 32, 47, 32, 37, 32, 60, 60, 32, 62, 62, 32, 60, 32, 62, 32, 60, 61, 32, 62, 61, 32, 61, 61, 32, 33, 61, 32, 94, 32, 124, 32, 38, 38, 32, 124, 124, 32, 63, 32, 58, 32, 59, 32, 46, 46, 46, 32, 61, 32, 42, 61, 32, 47, 61, 32, 37, 61, 32, 43, 61, 32, 45, 61, 32, 60, 60, 61, 32, 62, 62, 61, 32, 38, 61, 32, 94, 61, 32, 124, 61, 32, 44, 32, 35, 32, 35, 35, 32, 60, 58, 32, 58, 62, 32, 60, 37, 32, 37, 62, 32, 37, 58, 32, 37, 58, 37, 58, 32]⟩ : ByteArray).extract (x5_3 : Int).toNat ((wrap64 (x5_3 + (wd.size : Int))) : Int).toNat).toList == wd.toList) = true := beq_iff_eq.mpr c15
                              have c15b1 : (((⟨#[32, 91, 32, 93, 32, 40, 32, 41, 32, 123, 32, 125, 32, 46, 32, 45, 62, 32, 43, 43, 32, 45, 45, 32, 38, 32, 42, 32, 43, 32, 45, 32, 126, 32, 33, 32, 47, 32, 37, 32, 60, 60, 32, 62, 62, 32, 60, 32, 62, 32, 60, 61, 32, 62, 61, 32, 61, 61, 32, 33, 61, 32, 94, 32, 124, 32, 38, 38, 32, 124, 124, 32, 63, 32, 58, 32, 59, 32, 46, 46, 46, 32, 61, 32, 42, 61, 32, 47, 61, 32, 37, 61, 32, 43, 61, 32, 45, 61, 32, 60, 60, 61, 32, 62, 62, 61, 32, 38, 61, 32, 94, 61, 32, 124, 61, 32, 44, 32, 35, 32, 35, 35, 32, 60, 58, 32, 58, 62, 32, 60, 37, 32, 37, 62, 32, 37, 58, 32, 37, 58, 37, 58, 32]⟩ : ByteArray).extract (x5_3 : Int).toNat ((wrap64 (x5_3 + (wd.size : Int))) : Int).toNat).toList != wd.toList) = false := bne_eq_false_iff_eq.mpr c15
                              clear c15
                              obtain rfl := Option.some.inj H
                              go_wp2
                              go_ret
                              exact ⟨by first | rfl | (simp; done) | (simp [*]; done), by repeat (first | exact Drawn0.refl _ | apply Drawn0.step)⟩
                            · rw [if_neg c15] at H
                              have c15b0 : (((⟨#[32, 91, 32, 93, 32, 40, 32, 41, 32, 123, 32, 125, 32, 46, 32, 45, 62, 32, 43, 43, 32, 45, 45, 32, 38, 32, 42, 32, 43, 32, 45, 32, 126, 32, 33, 32, 47, 32, 37, 32, 60, 60, 32, 62, 62, 32, 60, 32, 62, 32, 60, 61, 32, 62, 61, 32, 61, 61, 32, 33, 61, 32, 94, 32, 124, 32, 38, 38, 32, 124, 124, 32, 63, 32, 58, 32, 59, 32, 46, 46, 46, 32, 61, 32, 42, 61, 32, 47, 61, 32, 37, 61, 32, 43, 61, 32, 45, 61, 32, 60, 60, 61, 32, 62, 62, 61, 32, 38, 61, 32, 94, 61, 32, 124, 61, 32, 44, 32, 35, 32, 35, 35, 32, 60, 58, 32, 58, 62, 32, 60, 37, 32, 37, 62, 32, 37, 58, 32, 37, 58, 37, 58, 32]⟩ : ByteArray).extract (x5_3 : Int).toNat ((wrap64 (x5_3 + (wd.size : Int))) : Int).toNat).toList == wd.toList) = false := beq_eq_false_iff_ne.mpr c15
                              have c15b1 : (((⟨#[32, 91, 32, 93, 32, 40, 32, 41, 32, 123, 32, 125, 32, 46, 32, 45, 62, 32, 43, 43, 32, 45, 45, 32, 38, 32, 42, 32, 43, 32, 45, 32, 126, 32, 33, 32, 47, 32, 37, 32, 60, 60, 32, 62, 62, 32, 60, 32, 62, 32, 60, 61, 32, 62, 61, 32, 61, 61, 32, 33, 61, 32, 94, 32, 124, 32, 38, 38, 32, 124, 124, 32, 63, 32, 58, 32, 59, 32, 46, 46, 46, 32, 61, 32, 42, 61, 32, 47, 61, 32, 37, 61, 32, 43, 61, 32, 45, 61, 32, 60, 60, 61, 32, 62, 62, 61, 32, 38, 61, 32, 94, 61, 32, 124, 61, 32, 44, 32, 35, 32, 35, 35, 32, 60, 58, 32, 58, 62, 32, 60, 37, 32, 37, 62, 32, 37, 58, 32, 37, 58, 37, 58, 32]⟩ : ByteArray).extract (x5_3 : Int).toNat ((wrap64 (x5_3 + (wd.size : Int))) : Int).toNat).toList != wd.toList) = true := bne_iff_ne.mpr c15
                              have H' := Aside0.mk H
                              clear H
                              go_wp2
                              go_roundg k3
                              case measure => have := HJ3.out; have := HK2.out; have := HK3.out; omega
                              case rel => exact ⟨(wrap64 (x5_3 + 1)), (by first | rfl | (simp; done) | (simp [*]; done)), H', ⟨by have := HJ3.out; have := HK2.out; have := HK3.out; omega⟩, by repeat (first | exact Drawn0.refl _ | apply Drawn0.step)⟩
                          · rw [if_neg c13] at H
                            exact absurd H (by simp)
                        · rw [if_neg c12] at H
                          exact absurd H (by simp)
                      · rw [if_neg c11] at H
                        have c11b0 : decide ((wrap64 (x5_3 + (wd.size : Int))) ≤ 143) = false := decide_eq_false c11
                        clear c11
                        obtain rfl := Option.some.inj H
                        go_wp2
                        go_ret
                        exact ⟨by first | rfl | (simp; done) | (simp [*]; done), by repeat (first | exact Drawn0.refl _ | apply Drawn0.step)⟩
    · rw [if_neg c3] at H
      exact absurd H (by simp)
  · rw [if_neg c2] at H
    exact absurd H (by simp)

end Go.Proofs.Ytonfmnohmigjpaa.P
