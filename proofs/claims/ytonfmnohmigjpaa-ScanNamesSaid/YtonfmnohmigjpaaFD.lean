-- Written by wip/pr.py (the kit's printer, driven for functions that are proved by hand beside it), and put together by wip/mg.py.
import Derived.Test.YtonfmnohmigjpaaF0
import Derived.Test.YtonfmnohmigjpaaG56
namespace Go.Proofs.Ytonfmnohmigjpaa.P
open Go.RowKit Go.Proofs.YtonfmnohmigjpaaW.PrintWords Go.Proofs.YtonfmnohmigjpaaW.PrintLast Go.Proofs.YtonfmnohmigjpaaW.PrintMore
attribute [local go_sem] max2_int min2_int max_two min_two max_three min_three max_four min_four   -- for this text's walks alone
set_option linter.unusedVariables false
set_option linter.unusedSimpArgs false

/-! ### regletlaw02_texts: function 58 -/
mutual
def regletlaw02_texts.j0 : Nat → List ByteArray → ByteArray → List (S26) → Bool → Option (Bool)
  | 0, _, _, _, _ => none
  | k + 1, x1, x2, x7, x30 => if x30 = true then (some false) else (regletlaw02_texts.l0 k x1 x2 x7 0)
def regletlaw02_texts.l0 : Nat → List ByteArray → ByteArray → List (S26) → Int → Option (Bool)
  | 0, _, _, _, _ => none
  | k + 1, x1, x2, x7, x9 => if x9 < (x7.length : Int) then (if 0 ≤ x9 then (if x9 < (x1.length : Int) then (if ((rd_T26 x7 x9).f1).toList = (rdOf ByteArray.empty x1 x9).toList then (if x9 < (x2.size : Int) then (if ((rd_T26 x7 x9).f0) = (wrap64 ((wrap64 (bt x2 x9)) - 48)) then (regletlaw02_texts.l0 k x1 x2 x7 (wrap64 (x9 + 1))) else (some false)) else (none)) else (some false)) else (none)) else (none)) else (some true)
end
def regletlaw02_texts.f (k : Nat) (a0 : ByteArray) (l1 : List ByteArray) (a2 : ByteArray) : Option (Bool) := (scan_Scan.f a0).bind fun bt499 => (if bt499.2 = 0 then (if (bt499.1.length : Int) = (l1.length : Int) then (regletlaw02_texts.j0 k l1 a2 bt499.1 ((bt499.1.length : Int) != (a2.size : Int))) else (regletlaw02_texts.j0 k l1 a2 bt499.1 true)) else (regletlaw02_texts.j0 k l1 a2 bt499.1 true))
theorem regletlaw02_texts.mono_l : ∀ k, (∀ y0 y1 y2 y3, LeO (regletlaw02_texts.j0 k y0 y1 y2 y3) (regletlaw02_texts.j0 (k + 1) y0 y1 y2 y3)) ∧ (∀ y0 y1 y2 y3, LeO (regletlaw02_texts.l0 k y0 y1 y2 y3) (regletlaw02_texts.l0 (k + 1) y0 y1 y2 y3))
  | 0 => ⟨fun _ _ _ _ r h => by simp [regletlaw02_texts.j0] at h, fun _ _ _ _ r h => by simp [regletlaw02_texts.l0] at h⟩
  | k + 1 => by
    obtain ⟨ih0, ih1⟩ := regletlaw02_texts.mono_l k
    refine ⟨?_, ?_⟩
    · intro y0 y1 y2 y3
      unfold regletlaw02_texts.j0
      repeat' first
      | (with_reducible exact ih0 _ _ _ _)
      | (with_reducible exact ih1 _ _ _ _)
      | (with_reducible exact LeO.refl _)
      | (with_reducible exact LeO.none _)
      | (with_reducible refine LeO.ite ?_ ?_)
      | (with_reducible refine LeO.bind ?_ (fun _ => ?_))
      | exact ih0 _ _ _ _
      | exact ih1 _ _ _ _
      | exact LeO.none _
      | refine LeO.ite ?_ ?_
      | refine LeO.bind ?_ (fun _ => ?_)
    · intro y0 y1 y2 y3
      unfold regletlaw02_texts.l0
      repeat' first
      | (with_reducible exact ih0 _ _ _ _)
      | (with_reducible exact ih1 _ _ _ _)
      | (with_reducible exact LeO.refl _)
      | (with_reducible exact LeO.none _)
      | (with_reducible refine LeO.ite ?_ ?_)
      | (with_reducible refine LeO.bind ?_ (fun _ => ?_))
      | exact ih0 _ _ _ _
      | exact ih1 _ _ _ _
      | exact LeO.none _
      | refine LeO.ite ?_ ?_
      | refine LeO.bind ?_ (fun _ => ?_)
theorem regletlaw02_texts.mono : ∀ a0 a1 a2 k, LeO (regletlaw02_texts.f k a0 a1 a2) (regletlaw02_texts.f (k + 1) a0 a1 a2) := by
  intro a0 a1 a2 k
  obtain ⟨ih0, ih1⟩ := regletlaw02_texts.mono_l k
  unfold regletlaw02_texts.f
  repeat' first
      | (with_reducible exact ih0 _ _ _ _)
      | (with_reducible exact ih1 _ _ _ _)
      | (with_reducible exact LeO.refl _)
      | (with_reducible exact LeO.none _)
      | (with_reducible refine LeO.ite ?_ ?_)
      | (with_reducible refine LeO.bind ?_ (fun _ => ?_))
      | exact ih0 _ _ _ _
      | exact ih1 _ _ _ _
      | exact LeO.none _
      | refine LeO.ite ?_ ?_
      | refine LeO.bind ?_ (fun _ => ?_)
set_option maxHeartbeats 8000000 in
set_option maxRecDepth 100000 in
theorem regletlaw02_texts.calls (k : Nat) (a0 : ByteArray) (A1 : Option Addr) (c1 : Nat) (l1 : List ByteArray) (a2 : ByteArray) (r : Bool) (w : World) (hr1 : Kd.C Kd.string w A1 l1.length l1) (hc1 : l1.length ≤ c1) (h : regletlaw02_texts.f k a0 l1 a2 = some r) (HM : HasMax w := by first | assumption | exact max_below (Aside0.out (by assumption)) (by assumption)) :
    Calls Try.prog 58 #[.string a0, .slice A1 l1.length c1, .string a2] w fun e w' => e = .returned (.bool r) ∧ Below w.heap.size w w' := by
  have HR1 := Aside0.mk hr1
  have HC1 := Aside0.mk hc1
  clear hr1 hc1
  have HB := Aside0.mk (Below.refl w.heap.size w)
  have H : ((scan_Scan.f a0).bind fun bt499 => (if bt499.2 = 0 then (if (bt499.1.length : Int) = (l1.length : Int) then (regletlaw02_texts.j0 k l1 a2 bt499.1 ((bt499.1.length : Int) != (a2.size : Int))) else (regletlaw02_texts.j0 k l1 a2 bt499.1 true)) else (regletlaw02_texts.j0 k l1 a2 bt499.1 true))) = some r := h
  clear h
  replace H := Option.bind_eq_some_iff.mp H
  obtain ⟨⟨t499, t500⟩, A40, H⟩ := H
  replace H : (if t500 = 0 then (if (t499.length : Int) = (l1.length : Int) then (regletlaw02_texts.j0 k l1 a2 t499 ((t499.length : Int) != (a2.size : Int))) else (regletlaw02_texts.j0 k l1 a2 t499 true)) else (regletlaw02_texts.j0 k l1 a2 t499 true)) = some r := H
  have A4 := Aside0.mk A40
  clear A40
  have HC5 := Aside0.mk H
  clear H
  go_enter Try.func58, Try.ntmps58
  go_upto_region 2 with (first | (go_at_call 56; (with_reducible refine (scan_Scan.calls a0 t499 t500 _ A4.out).mono ?_); rintro e w6 ⟨v501, rfl, ho0, hb⟩; have n0_ := Aside0.mk (Kd.R_lower ho0 (below_size (by repeat (first | (with_reducible first | exact HB.out | apply below_alloc | apply pw_below_drewN | apply below_drew1) | exact HB.out)))); have n1_ := Aside0.mk (below_step (by repeat (first | (with_reducible first | exact HB.out | apply below_alloc | apply pw_below_drewN | apply below_drew1) | exact HB.out)) hb); clear HB; have HO502 := n0_; have HB := n1_; clear n0_ n1_; (try clear hb); (try clear hb2); (try clear hk); (try clear hi); (try clear ho0)))
  repeat (go_quiet (first | (go_at_call 56; (with_reducible refine (scan_Scan.calls a0 t499 t500 _ A4.out).mono ?_); rintro e w6 ⟨v501, rfl, ho0, hb⟩; have n0_ := Aside0.mk (Kd.R_lower ho0 (below_size (by repeat (first | (with_reducible first | exact HB.out | apply below_alloc | apply pw_below_drewN | apply below_drew1) | exact HB.out)))); have n1_ := Aside0.mk (below_step (by repeat (first | (with_reducible first | exact HB.out | apply below_alloc | apply pw_below_drewN | apply below_drew1) | exact HB.out)) hb); clear HB; have HO502 := n0_; have HB := n1_; clear n0_ n1_; (try clear hb); (try clear hb2); (try clear hk); (try clear hi); (try clear ho0))); go_upto_region 2 with (first | (go_at_call 56; (with_reducible refine (scan_Scan.calls a0 t499 t500 _ A4.out).mono ?_); rintro e w6 ⟨v501, rfl, ho0, hb⟩; have n0_ := Aside0.mk (Kd.R_lower ho0 (below_size (by repeat (first | (with_reducible first | exact HB.out | apply below_alloc | apply pw_below_drewN | apply below_drew1) | exact HB.out)))); have n1_ := Aside0.mk (below_step (by repeat (first | (with_reducible first | exact HB.out | apply below_alloc | apply pw_below_drewN | apply below_drew1) | exact HB.out)) hb); clear HB; have HO502 := n0_; have HB := n1_; clear n0_ n1_; (try clear hb); (try clear hb2); (try clear hk); (try clear hi); (try clear ho0))))
  (try simp only [Act.put, List.setIfInBounds_toArray, List.set_cons_zero, List.set_cons_succ])
  go_cut [30] (fun v30 wc => ∃ (kq : Nat) (x30_4 : Bool), v30 = .bool x30_4 ∧ Aside0 (regletlaw02_texts.j0 kq l1 a2 t499 x30_4 = some r) ∧ Aside0 (kq ≤ k) ∧ Aside0 (Kd.R k26 26 wc w.heap.size (fun _ => True) v501 t499) ∧ Aside0 (Below w.heap.size w wc))
  case first =>
    have H := HC5.out
    clear HC5
    by_cases c7 : t500 = 0
    · rw [if_pos c7] at H
      have c7b0 : (t500 == 0) = true := beq_iff_eq.mpr c7
      have c7b1 : (t500 != 0) = false := bne_eq_false_iff_eq.mpr c7
      clear c7
      (first | rw [c7b0] | (simp only [i64_w, i32_w]; rw [c7b0]) | skip)
      by_cases c8 : (t499.length : Int) = (l1.length : Int)
      · rw [if_pos c8] at H
        have c8b0 : ((t499.length : Int) == (l1.length : Int)) = true := beq_iff_eq.mpr c8
        have c8b1 : ((t499.length : Int) != (l1.length : Int)) = false := bne_eq_false_iff_eq.mpr c8
        have c8b2 : (t499.length == l1.length) = true := by first | simpa using c8 | (simp at c8 ⊢; omega)
        clear c8
        have H' := Aside0.mk H
        clear H
        obtain ⟨Ao9, co9, eo9⟩ := Kd.R_slice HO502.out
        subst eo9
        go_wp2
        repeat (go_quiet (fail); try go_wp2)
        go_meet
        case rel => exact ⟨_, (((t499.length : Int) != (a2.size : Int))), (by first | rfl | (simp; done) | (simp [*]; done)), H', ⟨by first | omega | exact Nat.le_refl _⟩, ⟨by (with_reducible repeat (first | apply Kd.R_alloc | apply Kd.R_drewN | apply Kd.R_drew)); exact HO502.out⟩, ⟨by repeat (first | (with_reducible first | exact HB.out | apply below_alloc | apply pw_below_drewN | apply below_drew1) | exact HB.out)⟩⟩
      · rw [if_neg c8] at H
        have c8b0 : ((t499.length : Int) == (l1.length : Int)) = false := beq_eq_false_iff_ne.mpr c8
        have c8b1 : ((t499.length : Int) != (l1.length : Int)) = true := bne_iff_ne.mpr c8
        have c8b2 : (t499.length == l1.length) = false := by first | simpa using c8 | (simp at c8 ⊢; omega)
        have H' := Aside0.mk H
        clear H
        obtain ⟨Ao10, co10, eo10⟩ := Kd.R_slice HO502.out
        subst eo10
        go_wp2
        repeat (go_quiet (fail); try go_wp2)
        go_meet
        case rel => exact ⟨_, (true), (by first | rfl | (simp; done) | (simp [*]; done)), H', ⟨by first | omega | exact Nat.le_refl _⟩, ⟨by (with_reducible repeat (first | apply Kd.R_alloc | apply Kd.R_drewN | apply Kd.R_drew)); exact HO502.out⟩, ⟨by repeat (first | (with_reducible first | exact HB.out | apply below_alloc | apply pw_below_drewN | apply below_drew1) | exact HB.out)⟩⟩
    · rw [if_neg c7] at H
      have c7b0 : (t500 == 0) = false := beq_eq_false_iff_ne.mpr c7
      have c7b1 : (t500 != 0) = true := bne_iff_ne.mpr c7
      (first | rw [c7b0] | (simp only [i64_w, i32_w]; rw [c7b0]) | skip)
      have H' := Aside0.mk H
      clear H
      go_wp2
      repeat (go_quiet (fail); try go_wp2)
      go_meet
      case rel => exact ⟨_, (true), (by first | rfl | (simp; done) | (simp [*]; done)), H', ⟨by first | omega | exact Nat.le_refl _⟩, ⟨by (with_reducible repeat (first | apply Kd.R_alloc | apply Kd.R_drewN | apply Kd.R_drew)); exact HO502.out⟩, ⟨by repeat (first | (with_reducible first | exact HB.out | apply below_alloc | apply pw_below_drewN | apply below_drew1) | exact HB.out)⟩⟩
  case rest =>
    clear HC5
    try clear c1
    try clear p2
    try clear c5
    try clear c7
    try clear c7b0
    try clear c7b1
    try clear c8
    try clear c8b0
    try clear c8b1
    try clear c8b2
    obtain ⟨kq, x30_4, rfl, HA, HJ4, HO_7, HB⟩ := hcut
    cases kq with
    | zero => exact absurd HA.out (by simp [regletlaw02_texts.j0])
    | succ kj4 =>
      have H := HA.out
      clear HA
      simp only [regletlaw02_texts.j0] at H
      by_cases c11 : x30_4 = true
      · subst c11
        have H1 : (some false) = some r := by rw [if_pos rfl] at H; exact H
        clear H
        have H := H1
        clear H1
        obtain rfl := Option.some.inj H
        go_wp2
        repeat (go_quiet (fail); try go_wp2)
        go_ret
        exact ⟨by first | rfl | (simp [errW_none, errW_some] <;> rfl) | (simp [*, errW_none, errW_some] <;> rfl), by repeat (first | (with_reducible first | exact HB.out | apply below_alloc | apply pw_below_drewN | apply below_drew1) | exact HB.out)⟩
      · replace c11 := Bool.eq_false_iff.mpr c11
        subst c11
        have H1 : (regletlaw02_texts.l0 kj4 l1 a2 t499 0) = some r := by rw [if_neg (show ¬ (false = true) by decide)] at H; exact H
        clear H
        have H := H1
        clear H1
        have H' := Aside0.mk H
        clear H
        go_wp2
        repeat (go_quiet (fail); try go_wp2)
        go_loopg [9] kj4 (fun kq v9 w' => ∃ (x9_2 : Int), v9 = .int .i64 x9_2 ∧ Aside0 (regletlaw02_texts.l0 kq l1 a2 t499 x9_2 = some r) ∧ Aside0 (kq ≤ kj4) ∧ Aside0 (Kd.R k26 26 w' w.heap.size (fun _ => True) v501 t499) ∧ Aside0 (Below w.heap.size w w'))
        case atStart => exact ⟨(0), (by first | rfl | (simp; done) | (simp [*]; done)), H', ⟨Nat.le_refl _⟩, ⟨by (with_reducible repeat (first | apply Kd.R_alloc | apply Kd.R_drewN | apply Kd.R_drew)); exact HO_7.out⟩, ⟨by repeat (first | (with_reducible first | exact HB.out | apply below_alloc | apply pw_below_drewN | apply below_drew1) | exact HB.out)⟩⟩
        case round =>
          clear H'
          try clear c1
          try clear p2
          try clear c5
          try clear c7
          try clear c7b0
          try clear c7b1
          try clear c8
          try clear c8b0
          try clear c8b1
          try clear c8b2
          try clear c11
          try clear p2
          obtain ⟨x9_2, rfl, HA, HK2, HO_7, HB⟩ := hrel
          cases gk with
          | zero => exact absurd HA.out (by simp [regletlaw02_texts.l0])
          | succ k2 =>
            have H := HA.out
            clear HA
            simp only [regletlaw02_texts.l0] at H
            by_cases c12 : x9_2 < (t499.length : Int)
            · rw [if_pos c12] at H
              have c12b0 : decide (x9_2 < (t499.length : Int)) = true := decide_eq_true c12
              clear c12
              by_cases c13 : 0 ≤ x9_2
              · rw [if_pos c13] at H
                have c13b0 : decide (0 ≤ x9_2) = true := decide_eq_true c13
                clear c13
                by_cases c14 : x9_2 < (l1.length : Int)
                · rw [if_pos c14] at H
                  have c14b0 : decide (x9_2 < (l1.length : Int)) = true := decide_eq_true c14
                  clear c14
                  by_cases c15 : ((rd_T26 t499 x9_2).f1).toList = (rdOf ByteArray.empty l1 x9_2).toList
                  · rw [if_pos c15] at H
                    have c15b0 : (((rd_T26 t499 x9_2).f1).toList == (rdOf ByteArray.empty l1 x9_2).toList) = true := beq_iff_eq.mpr c15
                    have c15b1 : (((rd_T26 t499 x9_2).f1).toList != (rdOf ByteArray.empty l1 x9_2).toList) = false := bne_eq_false_iff_eq.mpr c15
                    clear c15
                    by_cases c16 : x9_2 < (a2.size : Int)
                    · rw [if_pos c16] at H
                      have c16b0 : decide (x9_2 < (a2.size : Int)) = true := decide_eq_true c16
                      clear c16
                      by_cases c18 : ((rd_T26 t499 x9_2).f0) = (wrap64 ((wrap64 (bt a2 x9_2)) - 48))
                      · rw [if_pos c18] at H
                        have c18b0 : (((rd_T26 t499 x9_2).f0) == (wrap64 ((wrap64 (bt a2 x9_2)) - 48))) = true := beq_iff_eq.mpr c18
                        have c18b1 : (((rd_T26 t499 x9_2).f0) != (wrap64 ((wrap64 (bt a2 x9_2)) - 48))) = false := bne_eq_false_iff_eq.mpr c18
                        clear c18
                        have H' := Aside0.mk H
                        clear H
                        obtain ⟨Ao19, co19, eo19⟩ := Kd.R_slice HO_7.out
                        subst eo19
                        have p503 : 0 ≤ (x9_2 : Int) := of_decide_eq_true (by first | (with_reducible assumption) | assumption)
                        have q503 : x9_2 < (t499.length : Int) := of_decide_eq_true (by first | (with_reducible assumption) | assumption)
                        obtain ⟨ad503, e503, hx503_0, hx503_1, hx503_2, hx503_3, hx503_4⟩ := at_T26 (Kd.R_reads' HO_7.out).2.2 x9_2 p503 q503
                        cases e503
                        replace p503 := eq_true p503
                        replace q503 := eq_true q503
                        have p504 : 0 ≤ (x9_2 : Int) := of_decide_eq_true (by first | (with_reducible assumption) | assumption)
                        have q504 : x9_2 < (l1.length : Int) := of_decide_eq_true (by first | (with_reducible assumption) | assumption)
                        obtain ⟨ad504, e504, hx504_0⟩ := Kd.at_string HR1.out x9_2 p504 q504
                        cases e504
                        replace hx504_0 := (HB.out.cell (World.block_lt_of_cell? w _ hx504_0)).trans hx504_0
                        replace p504 := eq_true p504
                        replace q504 := eq_true q504
                        have p505 : 0 ≤ (x9_2 : Int) := of_decide_eq_true (by first | (with_reducible assumption) | assumption)
                        have q505 : x9_2 < (t499.length : Int) := of_decide_eq_true (by first | (with_reducible assumption) | assumption)
                        obtain ⟨ad505, e505, hx505_0, hx505_1, hx505_2, hx505_3, hx505_4⟩ := at_T26 (Kd.R_reads' HO_7.out).2.2 x9_2 p505 q505
                        obtain rfl : ad503 = ad505 := (by injection e505)
                        replace p505 := eq_true p505
                        replace q505 := eq_true q505
                        have p17 : 0 ≤ (x9_2 : Int) := of_decide_eq_true (by first | (with_reducible assumption) | assumption)
                        have q17 : x9_2 < (a2.size : Int) := of_decide_eq_true (by first | (with_reducible assumption) | assumption)
                        have hx17 := bt_at a2 x9_2
                        replace p17 := eq_true p17
                        replace q17 := eq_true q17
                        go_wp2
                        repeat (go_quiet (fail); try go_wp2)
                        go_roundg k2
                        case measure => have := HJ4.out; have := HK2.out; omega
                        case rel => exact ⟨(wrap64 (x9_2 + 1)), (by first | rfl | (simp; done) | (simp [*]; done)), H', ⟨by have := HJ4.out; have := HK2.out; omega⟩, ⟨by (with_reducible repeat (first | apply Kd.R_alloc | apply Kd.R_drewN | apply Kd.R_drew)); exact HO_7.out⟩, ⟨by repeat (first | (with_reducible first | exact HB.out | apply below_alloc | apply pw_below_drewN | apply below_drew1) | exact HB.out)⟩⟩
                      · rw [if_neg c18] at H
                        have c18b0 : (((rd_T26 t499 x9_2).f0) == (wrap64 ((wrap64 (bt a2 x9_2)) - 48))) = false := beq_eq_false_iff_ne.mpr c18
                        have c18b1 : (((rd_T26 t499 x9_2).f0) != (wrap64 ((wrap64 (bt a2 x9_2)) - 48))) = true := bne_iff_ne.mpr c18
                        obtain rfl := Option.some.inj H
                        obtain ⟨Ao20, co20, eo20⟩ := Kd.R_slice HO_7.out
                        subst eo20
                        have p503 : 0 ≤ (x9_2 : Int) := of_decide_eq_true (by first | (with_reducible assumption) | assumption)
                        have q503 : x9_2 < (t499.length : Int) := of_decide_eq_true (by first | (with_reducible assumption) | assumption)
                        obtain ⟨ad503, e503, hx503_0, hx503_1, hx503_2, hx503_3, hx503_4⟩ := at_T26 (Kd.R_reads' HO_7.out).2.2 x9_2 p503 q503
                        cases e503
                        replace p503 := eq_true p503
                        replace q503 := eq_true q503
                        have p504 : 0 ≤ (x9_2 : Int) := of_decide_eq_true (by first | (with_reducible assumption) | assumption)
                        have q504 : x9_2 < (l1.length : Int) := of_decide_eq_true (by first | (with_reducible assumption) | assumption)
                        obtain ⟨ad504, e504, hx504_0⟩ := Kd.at_string HR1.out x9_2 p504 q504
                        cases e504
                        replace hx504_0 := (HB.out.cell (World.block_lt_of_cell? w _ hx504_0)).trans hx504_0
                        replace p504 := eq_true p504
                        replace q504 := eq_true q504
                        have p505 : 0 ≤ (x9_2 : Int) := of_decide_eq_true (by first | (with_reducible assumption) | assumption)
                        have q505 : x9_2 < (t499.length : Int) := of_decide_eq_true (by first | (with_reducible assumption) | assumption)
                        obtain ⟨ad505, e505, hx505_0, hx505_1, hx505_2, hx505_3, hx505_4⟩ := at_T26 (Kd.R_reads' HO_7.out).2.2 x9_2 p505 q505
                        obtain rfl : ad503 = ad505 := (by injection e505)
                        replace p505 := eq_true p505
                        replace q505 := eq_true q505
                        have p17 : 0 ≤ (x9_2 : Int) := of_decide_eq_true (by first | (with_reducible assumption) | assumption)
                        have q17 : x9_2 < (a2.size : Int) := of_decide_eq_true (by first | (with_reducible assumption) | assumption)
                        have hx17 := bt_at a2 x9_2
                        replace p17 := eq_true p17
                        replace q17 := eq_true q17
                        go_wp2
                        repeat (go_quiet (fail); try go_wp2)
                        go_ret
                        exact ⟨by first | rfl | (simp [errW_none, errW_some] <;> rfl) | (simp [*, errW_none, errW_some] <;> rfl), by repeat (first | (with_reducible first | exact HB.out | apply below_alloc | apply pw_below_drewN | apply below_drew1) | exact HB.out)⟩
                    · rw [if_neg c16] at H
                      exact absurd H (by simp)
                  · rw [if_neg c15] at H
                    have c15b0 : (((rd_T26 t499 x9_2).f1).toList == (rdOf ByteArray.empty l1 x9_2).toList) = false := beq_eq_false_iff_ne.mpr c15
                    have c15b1 : (((rd_T26 t499 x9_2).f1).toList != (rdOf ByteArray.empty l1 x9_2).toList) = true := bne_iff_ne.mpr c15
                    obtain rfl := Option.some.inj H
                    obtain ⟨Ao21, co21, eo21⟩ := Kd.R_slice HO_7.out
                    subst eo21
                    have p503 : 0 ≤ (x9_2 : Int) := of_decide_eq_true (by first | (with_reducible assumption) | assumption)
                    have q503 : x9_2 < (t499.length : Int) := of_decide_eq_true (by first | (with_reducible assumption) | assumption)
                    obtain ⟨ad503, e503, hx503_0, hx503_1, hx503_2, hx503_3, hx503_4⟩ := at_T26 (Kd.R_reads' HO_7.out).2.2 x9_2 p503 q503
                    cases e503
                    replace p503 := eq_true p503
                    replace q503 := eq_true q503
                    have p504 : 0 ≤ (x9_2 : Int) := of_decide_eq_true (by first | (with_reducible assumption) | assumption)
                    have q504 : x9_2 < (l1.length : Int) := of_decide_eq_true (by first | (with_reducible assumption) | assumption)
                    obtain ⟨ad504, e504, hx504_0⟩ := Kd.at_string HR1.out x9_2 p504 q504
                    cases e504
                    replace hx504_0 := (HB.out.cell (World.block_lt_of_cell? w _ hx504_0)).trans hx504_0
                    replace p504 := eq_true p504
                    replace q504 := eq_true q504
                    go_wp2
                    repeat (go_quiet (fail); try go_wp2)
                    go_ret
                    exact ⟨by first | rfl | (simp [errW_none, errW_some] <;> rfl) | (simp [*, errW_none, errW_some] <;> rfl), by repeat (first | (with_reducible first | exact HB.out | apply below_alloc | apply pw_below_drewN | apply below_drew1) | exact HB.out)⟩
                · rw [if_neg c14] at H
                  exact absurd H (by simp)
              · rw [if_neg c13] at H
                exact absurd H (by simp)
            · rw [if_neg c12] at H
              have c12b0 : decide (x9_2 < (t499.length : Int)) = false := decide_eq_false c12
              clear c12
              obtain rfl := Option.some.inj H
              obtain ⟨Ao22, co22, eo22⟩ := Kd.R_slice HO_7.out
              subst eo22
              go_wp2
              repeat (go_quiet (fail); try go_wp2)
              go_ret
              exact ⟨by first | rfl | (simp [errW_none, errW_some] <;> rfl) | (simp [*, errW_none, errW_some] <;> rfl), by repeat (first | (with_reducible first | exact HB.out | apply below_alloc | apply pw_below_drewN | apply below_drew1) | exact HB.out)⟩

end Go.Proofs.Ytonfmnohmigjpaa.P
namespace Go.Proofs.Ytonfmnohmigjpaa.P
open Go.RowKit Go.Proofs.YtonfmnohmigjpaaW.PrintWords Go.Proofs.YtonfmnohmigjpaaW.PrintLast Go.Proofs.YtonfmnohmigjpaaW.PrintMore
attribute [local go_sem] max2_int min2_int max_two min_two max_three min_three max_four min_four   -- for this text's walks alone
set_option linter.unusedVariables false
set_option linter.unusedSimpArgs false

/-! ### regletlaw02_alive: function 55 -/
def regletlaw02_alive.f (k : Nat)  : Option (Bool) := (regletlaw02_texts.f k (⟨#[97, 43, 43, 43, 98, 10]⟩ : ByteArray) (([(⟨#[97]⟩ : ByteArray), (⟨#[43, 43]⟩ : ByteArray), (⟨#[43]⟩ : ByteArray), (⟨#[98]⟩ : ByteArray), (⟨#[10]⟩ : ByteArray)] : List ByteArray)) (⟨#[49, 53, 53, 49, 57]⟩ : ByteArray)).bind fun t509 => (some t509)
theorem regletlaw02_alive.mono : ∀ k, LeO (regletlaw02_alive.f k ) (regletlaw02_alive.f (k + 1) ) := by
  intro  k
  unfold regletlaw02_alive.f
  repeat' first
      | (with_reducible exact regletlaw02_texts.mono _ _ _ _)
      | (with_reducible exact LeO.refl _)
      | (with_reducible exact LeO.none _)
      | (with_reducible refine LeO.ite ?_ ?_)
      | (with_reducible refine LeO.bind ?_ (fun _ => ?_))
      | exact regletlaw02_texts.mono _ _ _ _
      | exact LeO.none _
      | refine LeO.ite ?_ ?_
      | refine LeO.bind ?_ (fun _ => ?_)
set_option maxHeartbeats 8000000 in
set_option maxRecDepth 100000 in
theorem regletlaw02_alive.calls (k : Nat)  (r : Bool) (w : World) (h : regletlaw02_alive.f k  = some r) (HM : HasMax w := by first | assumption | exact max_below (Aside0.out (by assumption)) (by assumption)) :
    Calls Try.prog 55 #[] w fun e w' => e = .returned (.bool r) ∧ Below w.heap.size w w' := by
  have HB := Aside0.mk (Below.refl w.heap.size w)
  have H : ((regletlaw02_texts.f k (⟨#[97, 43, 43, 43, 98, 10]⟩ : ByteArray) (([(⟨#[97]⟩ : ByteArray), (⟨#[43, 43]⟩ : ByteArray), (⟨#[43]⟩ : ByteArray), (⟨#[98]⟩ : ByteArray), (⟨#[10]⟩ : ByteArray)] : List ByteArray)) (⟨#[49, 53, 53, 49, 57]⟩ : ByteArray)).bind fun t509 => (some t509)) = some r := h
  clear h
  obtain ⟨y506, hy506⟩ : ∃ y_ : List ByteArray, y_ = (([(⟨#[97]⟩ : ByteArray), (⟨#[43, 43]⟩ : ByteArray), (⟨#[43]⟩ : ByteArray), (⟨#[98]⟩ : ByteArray), (⟨#[10]⟩ : ByteArray)] : List ByteArray)) := ⟨_, rfl⟩
  replace H : ((regletlaw02_texts.f k (⟨#[97, 43, 43, 43, 98, 10]⟩ : ByteArray) y506 (⟨#[49, 53, 53, 49, 57]⟩ : ByteArray)).bind fun t509 => (some t509)) = some r := by first | (rw [hy506]; with_reducible exact H) | (have H2_ := (Option.bind_some _ _).symm.trans H; rw [hy506]; with_reducible exact H2_) | (have H2_ := (Option.bind_some _ _).symm.trans H; with_reducible exact H2_) | with_reducible exact H | (rw [hy506]; exact H) | exact H
  have Ny506 := Aside0.mk hy506
  clear hy506
  replace H := Option.bind_eq_some_iff.mp H
  obtain ⟨t509, A10, H⟩ := H
  replace H : (some t509) = some r := H
  have A1 := Aside0.mk A10
  clear A10
  obtain rfl := Option.some.inj H
  go_enter Try.func55, Try.ntmps55
  go_wp2_with (first | ((with_reducible refine gate_dst (N := 1) rfl ?_); refine Kd.R_lit Kd.string _ 9 ?hg (N := 1) ?hd (xs := ([(⟨#[97]⟩ : ByteArray), (⟨#[43, 43]⟩ : ByteArray), (⟨#[43]⟩ : ByteArray), (⟨#[98]⟩ : ByteArray), (⟨#[10]⟩ : ByteArray)] : List ByteArray)) (inner := [.string (⟨#[97]⟩ : ByteArray), .string (⟨#[43, 43]⟩ : ByteArray), .string (⟨#[43]⟩ : ByteArray), .string (⟨#[98]⟩ : ByteArray), .string (⟨#[10]⟩ : ByteArray)]) (ok := fun _ => True) (okp := fun _ => True) ?hr ?hp (fun _ hk => hk) trivial (Below.refl _ _) (Nat.le_refl _) (by simp) ?_; (case hd => rfl); (case hg => rfl); (case hr => first | (go_simp; done) | (go_simp; rfl)); (case hp => exact (Reps.one (show Kd.M Kd.string _ _ _ (⟨#[97]⟩ : ByteArray) [.string (⟨#[97]⟩ : ByteArray)] from rfl) (Reps.one (show Kd.M Kd.string _ _ _ (⟨#[43, 43]⟩ : ByteArray) [.string (⟨#[43, 43]⟩ : ByteArray)] from rfl) (Reps.one (show Kd.M Kd.string _ _ _ (⟨#[43]⟩ : ByteArray) [.string (⟨#[43]⟩ : ByteArray)] from rfl) (Reps.one (show Kd.M Kd.string _ _ _ (⟨#[98]⟩ : ByteArray) [.string (⟨#[98]⟩ : ByteArray)] from rfl) (Reps.one (show Kd.M Kd.string _ _ _ (⟨#[10]⟩ : ByteArray) [.string (⟨#[10]⟩ : ByteArray)] from rfl) (Reps.none _ _))))))); intro v507 w2 ho3 hb hg_ hnew_; clear hg_ hnew_; (first | rw [← Ny506.out] at ho3 | (simp only [Int.reduceToNat] at ho3; rw [← Ny506.out] at ho3)); have n0_ := Aside0.mk (Kd.R_lower ho3 (below_size (by repeat (first | (with_reducible first | exact HB.out | apply below_alloc | apply pw_below_drewN | apply below_drew1) | exact HB.out)))); have n1_ := Aside0.mk (below_step (by repeat (first | (with_reducible first | exact HB.out | apply below_alloc | apply pw_below_drewN | apply below_drew1) | exact HB.out)) hb); clear HB; have HO508 := n0_; have HB := n1_; clear n0_ n1_; clear hb ho3; obtain ⟨Ao4, co4, eo4⟩ := Kd.R_slice HO508.out; subst eo4) | ((with_reducible refine gate_callee (f := 58) rfl ?_); refine goesL_ (some 2) rfl rfl Try.func58 (by kernel_rfl) rfl #[.string (⟨#[97, 43, 43, 43, 98, 10]⟩ : ByteArray), .slice Ao4 y506.length co4, .string (⟨#[49, 53, 53, 49, 57]⟩ : ByteArray)] rfl (by (try simp only [List.map_toArray, List.map_cons, List.map_nil]); first | done | rfl | (simp only [List.length_drop, List.length_take]; rfl)) ?_; (with_reducible refine (regletlaw02_texts.calls k (⟨#[97, 43, 43, 43, 98, 10]⟩ : ByteArray) _ _ y506 (⟨#[49, 53, 53, 49, 57]⟩ : ByteArray) t509 _ ?side1 ?side2 A1.out).mono ?_); (case side1 => repeat (first | exact (Kd.R_reads' HO508.out).2.2 | (with_reducible refine Kd.C_alloc ?_ _) | (with_reducible refine Kd.C_drewN ?_ _) | (with_reducible refine Kd.C_drew ?_))); (case side2 => exact (Kd.R_reads' HO508.out).2.1); rintro e w5 ⟨rfl, hb⟩; refine ⟨_, rfl, ?_⟩; have n0_ := Aside0.mk (Kd.R_below (by (with_reducible repeat (first | apply Kd.R_alloc | apply Kd.R_drewN | apply Kd.R_drew)); exact HO508.out) hb); have n1_ := Aside0.mk (below_step (by repeat (first | (with_reducible first | exact HB.out | apply below_alloc | apply pw_below_drewN | apply below_drew1) | exact HB.out)) hb); clear HO508; clear HB; have HO508 := n0_; have HB := n1_; clear n0_ n1_; (try clear hb); (try clear hb2); (try clear hk); (try clear hi)))
  go_ret
  exact ⟨by first | rfl | (simp [errW_none, errW_some] <;> rfl) | (simp [*, errW_none, errW_some] <;> rfl), by repeat (first | (with_reducible first | exact HB.out | apply below_alloc | apply pw_below_drewN | apply below_drew1) | exact HB.out)⟩

end Go.Proofs.Ytonfmnohmigjpaa.P
namespace Go.Proofs.Ytonfmnohmigjpaa.P
open Go.RowKit Go.Proofs.YtonfmnohmigjpaaW.PrintWords Go.Proofs.YtonfmnohmigjpaaW.PrintLast Go.Proofs.YtonfmnohmigjpaaW.PrintMore
attribute [local go_sem] max2_int min2_int max_two min_two max_three min_three max_four min_four   -- for this text's walks alone
set_option linter.unusedVariables false
set_option linter.unusedSimpArgs false

/-! ### regletlaw02_refused: function 59 -/
def regletlaw02_refused.f (a0 : ByteArray) (a1 : Int) : Option (Bool) := (scan_Scan.f a0).bind fun bt632 => (if (bt632.1.length : Int) = 0 then (some (bt632.2 == a1)) else (some false))
set_option maxHeartbeats 8000000 in
set_option maxRecDepth 100000 in
theorem regletlaw02_refused.calls (a0 : ByteArray) (a1 : Int) (r : Bool) (w : World) (h : regletlaw02_refused.f a0 a1 = some r) (HM : HasMax w := by first | assumption | exact max_below (Aside0.out (by assumption)) (by assumption)) :
    Calls Try.prog 59 #[.string a0, .int .i64 a1] w fun e w' => e = .returned (.bool r) ∧ Below w.heap.size w w' := by
  have HB := Aside0.mk (Below.refl w.heap.size w)
  have H : ((scan_Scan.f a0).bind fun bt632 => (if (bt632.1.length : Int) = 0 then (some (bt632.2 == a1)) else (some false))) = some r := h
  clear h
  replace H := Option.bind_eq_some_iff.mp H
  obtain ⟨⟨t632, t633⟩, A30, H⟩ := H
  replace H : (if (t632.length : Int) = 0 then (some (t633 == a1)) else (some false)) = some r := H
  have A3 := Aside0.mk A30
  clear A30
  by_cases c4 : (t632.length : Int) = 0
  · rw [if_pos c4] at H
    have c4b0 : ((t632.length : Int) == 0) = true := beq_iff_eq.mpr c4
    have c4b1 : ((t632.length : Int) != 0) = false := bne_eq_false_iff_eq.mpr c4
    clear c4
    obtain rfl := Option.some.inj H
    go_enter Try.func59, Try.ntmps59
    go_wp2_with (first | ((with_reducible refine gate_callee (f := 56) rfl ?_); refine goesL_ (some 9) rfl rfl Try.func56 (by kernel_rfl) rfl #[.string a0] rfl (by (try simp only [List.map_toArray, List.map_cons, List.map_nil]); first | done | rfl | (simp only [List.length_drop, List.length_take]; rfl)) ?_; (with_reducible refine (scan_Scan.calls a0 t632 t633 _ A3.out).mono ?_); rintro e w5 ⟨v634, rfl, ho0, hb⟩; refine ⟨_, rfl, ?_⟩; have n0_ := Aside0.mk (Kd.R_lower ho0 (below_size (by repeat (first | (with_reducible first | exact HB.out | apply below_alloc | apply pw_below_drewN | apply below_drew1) | exact HB.out)))); have n1_ := Aside0.mk (below_step (by repeat (first | (with_reducible first | exact HB.out | apply below_alloc | apply pw_below_drewN | apply below_drew1) | exact HB.out)) hb); clear HB; have HO635 := n0_; have HB := n1_; clear n0_ n1_; (try clear hb); (try clear hb2); (try clear hk); (try clear hi); (try clear ho0); obtain ⟨Ao6, co6, eo6⟩ := Kd.R_slice HO635.out; subst eo6))
    go_ret
    exact ⟨by first | rfl | (simp [errW_none, errW_some] <;> rfl) | (simp [*, errW_none, errW_some] <;> rfl), by repeat (first | (with_reducible first | exact HB.out | apply below_alloc | apply pw_below_drewN | apply below_drew1) | exact HB.out)⟩
  · rw [if_neg c4] at H
    have c4b0 : ((t632.length : Int) == 0) = false := beq_eq_false_iff_ne.mpr c4
    have c4b1 : ((t632.length : Int) != 0) = true := bne_iff_ne.mpr c4
    have c4b2 : ¬ (t632 = []) := fun h_ => c4 (by rw [h_]; rfl)
    obtain rfl := Option.some.inj H
    go_enter Try.func59, Try.ntmps59
    go_wp2_with (first | ((with_reducible refine gate_callee (f := 56) rfl ?_); refine goesL_ (some 9) rfl rfl Try.func56 (by kernel_rfl) rfl #[.string a0] rfl (by (try simp only [List.map_toArray, List.map_cons, List.map_nil]); first | done | rfl | (simp only [List.length_drop, List.length_take]; rfl)) ?_; (with_reducible refine (scan_Scan.calls a0 t632 t633 _ A3.out).mono ?_); rintro e w7 ⟨v634, rfl, ho0, hb⟩; refine ⟨_, rfl, ?_⟩; have n0_ := Aside0.mk (Kd.R_lower ho0 (below_size (by repeat (first | (with_reducible first | exact HB.out | apply below_alloc | apply pw_below_drewN | apply below_drew1) | exact HB.out)))); have n1_ := Aside0.mk (below_step (by repeat (first | (with_reducible first | exact HB.out | apply below_alloc | apply pw_below_drewN | apply below_drew1) | exact HB.out)) hb); clear HB; have HO635 := n0_; have HB := n1_; clear n0_ n1_; (try clear hb); (try clear hb2); (try clear hk); (try clear hi); (try clear ho0); obtain ⟨Ao8, co8, eo8⟩ := Kd.R_slice HO635.out; subst eo8))
    go_ret
    exact ⟨by first | rfl | (simp [errW_none, errW_some] <;> rfl) | (simp [*, errW_none, errW_some] <;> rfl), by repeat (first | (with_reducible first | exact HB.out | apply below_alloc | apply pw_below_drewN | apply below_drew1) | exact HB.out)⟩

end Go.Proofs.Ytonfmnohmigjpaa.P
