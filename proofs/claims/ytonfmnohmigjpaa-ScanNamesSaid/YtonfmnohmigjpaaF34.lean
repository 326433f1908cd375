-- Written by wip/pr.py (the kit's printer, driven for functions that are proved by hand beside it).
import Derived.Test.YtonfmnohmigjpaaF0
import Derived.Test.YtonfmnohmigjpaaG79
namespace Go.Proofs.Ytonfmnohmigjpaa.P
open Go.RowKit Go.Proofs.YtonfmnohmigjpaaW.PrintWords Go.Proofs.YtonfmnohmigjpaaW.PrintLast Go.Proofs.YtonfmnohmigjpaaW.PrintMore
attribute [local go_sem] max2_int min2_int max_two min_two max_three min_three max_four min_four   -- for this text's walks alone
set_option linter.unusedVariables false
set_option linter.unusedSimpArgs false

/-! ### phys_Third: function 34 -/
def phys_Third.f (a0 : Int) : Option (Int × Bool) := (strings_IndexByte.f (⟨#[61, 47, 39, 40, 41, 33, 60, 62, 45]⟩ : ByteArray) a0).bind fun t318 => (if t318 < 0 then (some (0, false)) else (if 0 ≤ t318 then (if t318 < 9 then (some (bt (⟨#[35, 92, 94, 91, 93, 124, 123, 125, 126]⟩ : ByteArray) t318, true)) else (none)) else (none)))
set_option maxHeartbeats 8000000 in
set_option maxRecDepth 100000 in
theorem phys_Third.calls (a0 : Int) (r1 : Int) (r2 : Bool) (w : World) (h : phys_Third.f a0 = some (r1, r2)) :
    Calls Try.prog 34 #[.int .u8 a0] w fun e w' => e = .returned (.tuple #[.int .u8 r1, .bool r2]) ∧ Drawn0 w w' := by
  have H : ((strings_IndexByte.f (⟨#[61, 47, 39, 40, 41, 33, 60, 62, 45]⟩ : ByteArray) a0).bind fun t318 => (if t318 < 0 then (some (0, false)) else (if 0 ≤ t318 then (if t318 < 9 then (some (bt (⟨#[35, 92, 94, 91, 93, 124, 123, 125, 126]⟩ : ByteArray) t318, true)) else (none)) else (none)))) = some (r1, r2) := h
  clear h
  replace H := Option.bind_eq_some_iff.mp H
  obtain ⟨t318, A20, H⟩ := H
  replace H : (if t318 < 0 then (some (0, false)) else (if 0 ≤ t318 then (if t318 < 9 then (some (bt (⟨#[35, 92, 94, 91, 93, 124, 123, 125, 126]⟩ : ByteArray) t318, true)) else (none)) else (none))) = some (r1, r2) := H
  have A2 := Aside0.mk A20
  clear A20
  by_cases c3 : t318 < 0
  · rw [if_pos c3] at H
    have c3b0 : decide (t318 < 0) = true := decide_eq_true c3
    clear c3
    simp only [Option.some.injEq, Prod.mk.injEq] at H
    obtain ⟨rfl, rfl⟩ := H
    go_enter Try.func34, Try.ntmps34
    go_wp2_with (first | ((with_reducible refine gate_callee (f := 79) rfl ?_); refine goesL_ (some 6) rfl rfl Try.func79 (by kernel_rfl) rfl #[.string (⟨#[61, 47, 39, 40, 41, 33, 60, 62, 45]⟩ : ByteArray), .int .u8 a0] rfl (by (try simp only [List.map_toArray, List.map_cons, List.map_nil]); first | done | rfl | (simp only [List.length_drop, List.length_take]; rfl)) ?_; (with_reducible refine (strings_IndexByte.calls (⟨#[61, 47, 39, 40, 41, 33, 60, 62, 45]⟩ : ByteArray) a0 t318 _ A2.out).mono ?_); rintro e w' ⟨rfl, ⟨nd, rfl⟩⟩; refine ⟨_, rfl, ?_⟩))
    go_ret2
    exact ⟨by first | rfl | (simp; done) | (simp [*]; done), by repeat (first | exact Drawn0.refl _ | apply Drawn0.step)⟩
  · rw [if_neg c3] at H
    have c3b0 : decide (t318 < 0) = false := decide_eq_false c3
    clear c3
    by_cases c4 : 0 ≤ t318
    · rw [if_pos c4] at H
      have c4b0 : decide (0 ≤ t318) = true := decide_eq_true c4
      clear c4
      by_cases c5 : t318 < 9
      · rw [if_pos c5] at H
        have c5b0 : decide (t318 < 9) = true := decide_eq_true c5
        clear c5
        simp only [Option.some.injEq, Prod.mk.injEq] at H
        obtain ⟨rfl, rfl⟩ := H
        go_enter Try.func34, Try.ntmps34
        go_wp2_with (first | ((with_reducible refine gate_callee (f := 79) rfl ?_); refine goesL_ (some 6) rfl rfl Try.func79 (by kernel_rfl) rfl #[.string (⟨#[61, 47, 39, 40, 41, 33, 60, 62, 45]⟩ : ByteArray), .int .u8 a0] rfl (by (try simp only [List.map_toArray, List.map_cons, List.map_nil]); first | done | rfl | (simp only [List.length_drop, List.length_take]; rfl)) ?_; (with_reducible refine (strings_IndexByte.calls (⟨#[61, 47, 39, 40, 41, 33, 60, 62, 45]⟩ : ByteArray) a0 t318 _ A2.out).mono ?_); rintro e w' ⟨rfl, ⟨nd, rfl⟩⟩; refine ⟨_, rfl, ?_⟩; have p6 : 0 ≤ (t318 : Int) := of_decide_eq_true (by first | (with_reducible assumption) | assumption); have q6 : t318 < (9 : Int) := of_decide_eq_true (by first | (with_reducible assumption) | assumption); have hx6 := bt_at (⟨#[35, 92, 94, 91, 93, 124, 123, 125, 126]⟩ : ByteArray) t318; replace p6 := eq_true p6; replace q6 := eq_true q6))
        go_ret2
        exact ⟨by first | rfl | (simp; done) | (simp [*]; done), by repeat (first | exact Drawn0.refl _ | apply Drawn0.step)⟩
      · rw [if_neg c5] at H
        exact absurd H (by simp)
    · rw [if_neg c4] at H
      exact absurd H (by simp)

end Go.Proofs.Ytonfmnohmigjpaa.P
