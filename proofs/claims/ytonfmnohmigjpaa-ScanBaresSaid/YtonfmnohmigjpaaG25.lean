/- The contract of regletref02.Bare: it answers bareF of the list that it is passed. -/
import Derived.Test.YtonfmnohmigjpaaG24
import Derived.Deep.DeepMust
namespace Go.Proofs.Ytonfmnohmigjpaa.P
open Go.RowKit Go.Proofs.YtonfmnohmigjpaaW.PrintWords Go.Proofs.YtonfmnohmigjpaaW.PrintLast Go.Proofs.YtonfmnohmigjpaaW.PrintMore

def regletref02_Bare.f (l : List S26) : Option (List S26) := if l.length ≤ 2932031007400 then some (bareF false l) else none
/-- What stands ahead of place i is left out. -/
def leftOf (l : List S26) : Nat → Bool
  | 0 => false
  | j + 1 => isGap (rd_T26 l (j : Int))

theorem cellA {W : World} {p : Addr} {v : Value} (h : W.cell? p = some v) (o : Obj) : (W.alloc o).cell? p = some v :=
  ((below_alloc (Below.refl _ _) o).cell (World.block_lt_of_cell? W _ h)).trans h

set_option maxHeartbeats 1000000 in
set_option maxRecDepth 100000 in
theorem regletref02_Bare.calls (A0 : Option Addr) (c0 : Nat) (l0 : List S26) (r : List S26) (w : World) (hr0 : Kd.C k26 w A0 l0.length l0) (hc0 : l0.length ≤ c0) (h : regletref02_Bare.f l0 = some r) :
    Calls Try.prog 25 #[.slice A0 l0.length c0] w fun e w' => ∃ v0_ : Value, e = .returned (v0_) ∧ Kd.R k26 26 w' w.heap.size (fun _ => True) v0_ r ∧ Below w.heap.size w w' := by
  have hu26 := Try.underlying26
  have HR0 := Aside0.mk hr0
  have HC0 := Aside0.mk hc0
  clear hr0 hc0
  have HB := Aside0.mk (Below.refl w.heap.size w)
  unfold regletref02_Bare.f at h
  split at h
  case isFalse => exact absurd h (by simp)
  rename_i hlen
  have hlen2 : l0.length ≤ 140737488351232 := by omega
  have H : Aside0 (bareF false l0 = r) := ⟨by simpa using h⟩
  clear h
  go_enter Try.func25, Try.ntmps25
  go_wp2
  go_loopw [3, 4] (fun v3 v4 w' => ∃ (xs : List S26) (i : Nat), v4 = .int .i64 i ∧ i ≤ l0.length ∧ xs.length ≤ i ∧ Aside0 (xs ++ bareF (leftOf l0 i) (l0.drop i) = r) ∧ Aside0 (Kd.R k26 26 w' w.heap.size (fun _ => True) v3 xs) ∧ Aside0 (Below w.heap.size w w')) (fun _ v4 _ => l0.length - (intOf v4).toNat)
  case atStart => exact ⟨[], 0, rfl, Nat.zero_le _, Nat.le_refl _, ⟨by simpa [leftOf] using H.out⟩, ⟨Kd.R_nil _ _ _ _ _⟩, HB⟩
  case round =>
    obtain ⟨xs, i, rfl, hi, hx, HX, HO, HB⟩ := hrel
    by_cases hlt : i < l0.length
    · obtain ⟨ad, e1, h0, h1, h2, h3, h4⟩ := at_T26 HR0.out (i : Int) (by omega) (by omega)
      cases e1
      have HD := Aside0.mk (drop_rd l0 i hlt)
      have HN : Aside0 (leftOf l0 (i + 1) = isGap (rd_T26 l0 (i : Int))) := ⟨rfl⟩
      generalize rd_T26 l0 (i : Int) = t at h0 h1 h2 h3 h4 HD HN
      obtain ⟨x0, x1, x2, x3, x4⟩ := t
      simp only [Int.toNat_natCast] at h0 h1 h2 h3 h4
      replace h0 := (HB.out.cell (World.block_lt_of_cell? w _ h0)).trans h0
      replace h1 := (HB.out.cell (World.block_lt_of_cell? w _ h1)).trans h1
      replace h2 := (HB.out.cell (World.block_lt_of_cell? w _ h2)).trans h2
      replace h3 := (HB.out.cell (World.block_lt_of_cell? w _ h3)).trans h3
      replace h4 := (HB.out.cell (World.block_lt_of_cell? w _ h4)).trans h4
      by_cases hg : x0 = 8 ∨ x0 = 9
      · have HG : Aside0 (isGap ⟨x0, x1, x2, x3, x4⟩ = true) := ⟨by rcases hg with rfl | rfl <;> rfl⟩
        rcases hg with rfl | rfl
        all_goals
          go_wp2
          go_roundw
          case rel => exact ⟨xs, i + 1, by go_num, by omega, by omega, ⟨by rw [HN.out, HG.out]; exact bare_skip _ _ _ _ _ _ HD.out HX.out HG.out⟩, HO, HB⟩
          case measure => simp [intOf]; omega
      · have n8 : (x0 == 8) = false := beq_eq_false_iff_ne.mpr (by omega)
        have n9 : (x0 == 9) = false := beq_eq_false_iff_ne.mpr (by omega)
        have HG : Aside0 (isGap ⟨x0, x1, x2, x3, x4⟩ = false) := ⟨by simp [isGap, n8, n9]⟩
        clear hg
        have HL : Aside0 ((xs.length + 1) * 48 ≤ 140737488355328) := ⟨by omega⟩
        -- the last part of a round, by what the box holds
        cases i with
        | zero =>
          replace h0 : wr.cell? ad = _ := h0
          replace h1 : wr.cell? ⟨ad.block, ad.off + 1, none⟩ = _ := h1
          replace h2 : wr.cell? ⟨ad.block, ad.off + 2, none⟩ = _ := h2
          replace h3 : wr.cell? ⟨ad.block, ad.off + 3, none⟩ = _ := h3
          replace h4 : wr.cell? ⟨ad.block, ad.off + 4, none⟩ = _ := h4
          go_wp2_with (at_builtin; go_must (refine Kd.R_append k26 (w0 := w) w.heap.size rfl (.tmp 51) (.tmp 53) 22 26 (.agg #[(.int .i64 0), (.string ⟨#[]⟩), (.int .i64 0), (.int .i64 0), (.bool false)]) 48 rfl Try.underlying22 info26 rfl (by decide) (by omega) u3 xs ⟨x0, x1, x2, x3, x4⟩ [.int .i64 x0, .string x1, .int .i64 x2, .int .i64 x3, .bool x4] (fun _ => True) (fun _ => False) rfl (by first | (go_simp; done) | (go_simp; rfl)) (k26_mkM _ _ _ ⟨x0, x1, x2, x3, x4⟩) (fun _ hk => hk.elim) (fun _ _ => trivial) (Kd.R_alloc HO.out _) (below_alloc HB.out _) (below_size (below_alloc HB.out _)) HL.out ?_); intro v1 w1 ho hb hg hat; have HO1 := Aside0.mk ho; have HB1 := Aside0.mk hb; clear ho hb hg hat)
          go_roundw
          case rel => exact ⟨_, 0 + 1, by go_num, by omega, by rw [List.length_append, List.length_singleton]; omega, ⟨by rw [HN.out, HG.out]; have := bare_take _ _ _ _ _ _ HD.out HX.out HG.out; simpa [leftOf] using this⟩, HO1, HB1⟩
          case measure => simp [intOf]; omega
        | succ j =>
          obtain ⟨ad2, e2, g0, _, _, _, _⟩ := at_T26 HR0.out (j : Int) (by omega) (by omega)
          cases e2
          have HP : Aside0 (leftOf l0 (j + 1) = isGap (rd_T26 l0 (j : Int))) := ⟨rfl⟩
          generalize rd_T26 l0 (j : Int) = t2 at g0 HP
          obtain ⟨y0, y1, y2, y3, y4⟩ := t2
          simp only [Int.toNat_natCast] at g0
          replace g0 := (HB.out.cell (World.block_lt_of_cell? w _ g0)).trans g0
          have g1 := fun o => cellA g0 o
          clear g0
          by_cases hg : y0 = 8 ∨ y0 = 9
          · have HQ : Aside0 (leftOf l0 (j + 1) = true) := ⟨HP.out.trans (by rcases hg with rfl | rfl <;> rfl)⟩
            rcases hg with rfl | rfl
            all_goals
              go_wp2_with (at_builtin; go_must (refine Kd.R_append k26 (w0 := w) w.heap.size rfl (.tmp 51) (.tmp 53) 22 26 (.agg #[(.int .i64 0), (.string ⟨#[]⟩), (.int .i64 0), (.int .i64 0), (.bool false)]) 48 rfl Try.underlying22 info26 rfl (by decide) (by omega) u3 xs ⟨x0, x1, x2, x3, true⟩ [.int .i64 x0, .string x1, .int .i64 x2, .int .i64 x3, .bool true] (fun _ => True) (fun _ => False) rfl (by first | (go_simp; done) | (go_simp; rfl)) (k26_mkM _ _ _ ⟨x0, x1, x2, x3, true⟩) (fun _ hk => hk.elim) (fun _ _ => trivial) (Kd.R_alloc HO.out _) (below_alloc HB.out _) (below_size (below_alloc HB.out _)) HL.out ?_); intro v1 w1 ho hb hg hat; have HO1 := Aside0.mk ho; have HB1 := Aside0.mk hb; clear ho hb hg hat)
              go_roundw
              case rel => exact ⟨_, j + 1 + 1, by go_num, by omega, by simp; omega, ⟨by rw [HN.out, HG.out]; have := bare_take _ _ _ _ _ _ HD.out HX.out HG.out; rw [HQ.out] at this; simpa using this⟩, HO1, HB1⟩
              case measure => simp [intOf]; omega
          · have m8 : (y0 == 8) = false := beq_eq_false_iff_ne.mpr (by omega)
            have m9 : (y0 == 9) = false := beq_eq_false_iff_ne.mpr (by omega)
            have HQ : Aside0 (leftOf l0 (j + 1) = false) := ⟨HP.out.trans (by simp [isGap, m8, m9])⟩
            clear hg
            go_wp2_with (at_builtin; go_must (refine Kd.R_append k26 (w0 := w) w.heap.size rfl (.tmp 51) (.tmp 53) 22 26 (.agg #[(.int .i64 0), (.string ⟨#[]⟩), (.int .i64 0), (.int .i64 0), (.bool false)]) 48 rfl Try.underlying22 info26 rfl (by decide) (by omega) u3 xs ⟨x0, x1, x2, x3, x4⟩ [.int .i64 x0, .string x1, .int .i64 x2, .int .i64 x3, .bool x4] (fun _ => True) (fun _ => False) rfl (by first | (go_simp; done) | (go_simp; rfl)) (k26_mkM _ _ _ ⟨x0, x1, x2, x3, x4⟩) (fun _ hk => hk.elim) (fun _ _ => trivial) (Kd.R_alloc HO.out _) (below_alloc HB.out _) (below_size (below_alloc HB.out _)) HL.out ?_); intro v1 w1 ho hb hg hat; have HO1 := Aside0.mk ho; have HB1 := Aside0.mk hb; clear ho hb hg hat)
            go_roundw
            case rel => exact ⟨_, j + 1 + 1, by go_num, by omega, by simp; omega, ⟨by rw [HN.out, HG.out]; have := bare_take _ _ _ _ _ _ HD.out HX.out HG.out; rw [HQ.out] at this; simpa using this⟩, HO1, HB1⟩
            case measure => simp [intOf]; omega
    · have hie : i = l0.length := by omega
      subst hie
      go_wp2
      go_ret
      refine ⟨_, rfl, ?_, HB.out⟩
      have := HX.out
      rw [List.drop_length] at this
      simp only [bareF, List.append_nil] at this
      rw [← this]
      exact HO.out
end Go.Proofs.Ytonfmnohmigjpaa.P
