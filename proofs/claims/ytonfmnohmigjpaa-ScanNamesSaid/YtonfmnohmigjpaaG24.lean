/- The contract of scan.Bare: it answers bareF of the list that it is passed. -/
import Derived.Test.YtonfmnohmigjpaaHd
import Derived.Deep.DeepMust
namespace Go.Proofs.Ytonfmnohmigjpaa.P
open Go.RowKit Go.Proofs.YtonfmnohmigjpaaW.PrintWords Go.Proofs.YtonfmnohmigjpaaW.PrintLast

theorem drop_rd (l : List S26) (i : Nat) (h : i < l.length) : l.drop i = rd_T26 l (i : Int) :: l.drop (i + 1) := by
  rw [List.drop_eq_getElem_cons h]
  congr 1
  simp [rd_T26, List.getD_eq_getElem?_getD, h]

theorem bare_skip (xs l : List S26) (b : Bool) (i : Nat) (t : S26) (tot : List S26) (hd : l.drop i = t :: l.drop (i + 1)) (h : xs ++ bareF b (l.drop i) = tot) (hg : isGap t = true) :
    xs ++ bareF true (l.drop (i + 1)) = tot := by
  rw [hd] at h; simpa [bareF, hg] using h
theorem bare_take (xs l : List S26) (b : Bool) (i : Nat) (t : S26) (tot : List S26) (hd : l.drop i = t :: l.drop (i + 1)) (h : xs ++ bareF b (l.drop i) = tot) (hg : isGap t = false) :
    (xs ++ [⟨t.f0, t.f1, t.f2, t.f3, t.f4 || b⟩]) ++ bareF false (l.drop (i + 1)) = tot := by
  rw [hd] at h; simpa [bareF, hg] using h

set_option maxHeartbeats 1000000 in
set_option maxRecDepth 100000 in
theorem scan_Bare.calls (A0 : Option Addr) (c0 : Nat) (l0 : List S26) (r : List S26) (w : World) (hr0 : Kd.C k26 w A0 l0.length l0) (hc0 : l0.length ≤ c0) (h : scan_Bare.f l0 = some r) :
    Calls Try.prog 24 #[.slice A0 l0.length c0] w fun e w' => ∃ v0_ : Value, e = .returned (v0_) ∧ Kd.R k26 26 w' w.heap.size (fun _ => True) v0_ r ∧ Below w.heap.size w w' := by
  have hu26 := Try.underlying26
  have HR0 := Aside0.mk hr0
  have HC0 := Aside0.mk hc0
  clear hr0 hc0
  have HB := Aside0.mk (Below.refl w.heap.size w)
  unfold scan_Bare.f at h
  split at h
  case isFalse => exact absurd h (by simp)
  rename_i hlen
  have hlen2 : l0.length ≤ 140737488351232 := by omega
  have H : Aside0 (bareF false l0 = r) := ⟨by simpa using h⟩
  clear h
  go_enter Try.func24, Try.ntmps24
  go_wp2
  go_step3
  go_wp2
  go_step3
  go_wp2
  go_loopw [3, 4, 9] (fun v3 v4 v9 w' => ∃ (xs : List S26) (b : Bool) (i : Nat), v4 = .bool b ∧ v9 = .int .i64 i ∧ i ≤ l0.length ∧ xs.length ≤ i ∧ Aside0 (xs ++ bareF b (l0.drop i) = r) ∧ Aside0 (Kd.R k26 26 w' w.heap.size (fun _ => True) v3 xs) ∧ Aside0 (Below w.heap.size w w')) (fun _ _ v9 _ => l0.length - (intOf v9).toNat)
  case atStart => exact ⟨[], false, 0, rfl, rfl, Nat.zero_le _, Nat.le_refl _, ⟨by simpa using H.out⟩, ⟨Kd.R_nil _ _ _ _ _⟩, HB⟩
  case round =>
    obtain ⟨xs, b, i, rfl, rfl, hi, hx, HX, HO, HB⟩ := hrel
    by_cases hlt : i < l0.length
    · obtain ⟨ad, e1, h0, h1, h2, h3, h4⟩ := at_T26 HR0.out (i : Int) (by omega) (by omega)
      cases e1
      have HD := Aside0.mk (drop_rd l0 i hlt)
      generalize rd_T26 l0 (i : Int) = t at *
      obtain ⟨x0, x1, x2, x3, x4⟩ := t
      simp only [Int.toNat_natCast] at h0 h1 h2 h3 h4
      replace h0 := (HB.out.cell (World.block_lt_of_cell? w _ h0)).trans h0
      replace h1 := (HB.out.cell (World.block_lt_of_cell? w _ h1)).trans h1
      replace h2 := (HB.out.cell (World.block_lt_of_cell? w _ h2)).trans h2
      replace h3 := (HB.out.cell (World.block_lt_of_cell? w _ h3)).trans h3
      replace h4 := (HB.out.cell (World.block_lt_of_cell? w _ h4)).trans h4
      by_cases hg : x0 = 8 ∨ x0 = 9
      · have HG : Aside0 (isGap ⟨x0, x1, x2, x3, x4⟩ = true) := ⟨by rcases hg with rfl | rfl <;> rfl⟩
        rcases hg with rfl | rfl
        all_goals
          go_wp2
          go_roundw
          case rel => exact ⟨xs, true, i + 1, rfl, by go_num, by omega, by omega, ⟨bare_skip _ _ _ _ _ _ HD.out HX.out HG.out⟩, ⟨Kd.R_alloc HO.out _⟩, ⟨below_alloc HB.out _⟩⟩
          case measure => simp [intOf]; omega
      · have n8 : (x0 == 8) = false := beq_eq_false_iff_ne.mpr (by omega)
        have n9 : (x0 == 9) = false := beq_eq_false_iff_ne.mpr (by omega)
        have HG : Aside0 (isGap ⟨x0, x1, x2, x3, x4⟩ = false) := ⟨by simp [isGap, n8, n9]⟩
        clear hg
        have HL : Aside0 ((xs.length + 1) * 48 ≤ 140737488355328) := ⟨by omega⟩
        cases x4 with
        | false =>
          go_wp2_with (at_builtin; go_must (refine Kd.R_append k26 (w0 := w) w.heap.size rfl (.tmp 24) (.tmp 26) 22 26 (.agg #[(.int .i64 0), (.string ⟨#[]⟩), (.int .i64 0), (.int .i64 0), (.bool false)]) 48 rfl Try.underlying22 info26 rfl (by decide) (by omega) u3 xs ⟨x0, x1, x2, x3, b⟩ [.int .i64 x0, .string x1, .int .i64 x2, .int .i64 x3, .bool b] (fun _ => True) (fun _ => False) rfl (by first | (go_simp; done) | (go_simp; rfl)) (k26_mkM _ _ _ ⟨x0, x1, x2, x3, b⟩) (fun _ hk => hk.elim) (fun _ _ => trivial) (Kd.R_alloc HO.out _) (below_alloc HB.out _) (below_size (below_alloc HB.out _)) HL.out ?_); intro v1 w1 ho hb hg hat; have HO1 := Aside0.mk ho; have HB1 := Aside0.mk hb; clear ho hb hg hat)
          go_roundw
          case rel => exact ⟨_, false, i + 1, rfl, by go_num, by omega, by simp; omega, ⟨bare_take _ _ _ _ _ _ HD.out HX.out HG.out⟩, HO1, HB1⟩
          case measure => simp [intOf]; omega
        | true =>
          go_wp2_with (at_builtin; go_must (refine Kd.R_append k26 (w0 := w) w.heap.size rfl (.tmp 24) (.tmp 26) 22 26 (.agg #[(.int .i64 0), (.string ⟨#[]⟩), (.int .i64 0), (.int .i64 0), (.bool false)]) 48 rfl Try.underlying22 info26 rfl (by decide) (by omega) u3 xs ⟨x0, x1, x2, x3, true⟩ [.int .i64 x0, .string x1, .int .i64 x2, .int .i64 x3, .bool true] (fun _ => True) (fun _ => False) rfl (by first | (go_simp; done) | (go_simp; rfl)) (k26_mkM _ _ _ ⟨x0, x1, x2, x3, true⟩) (fun _ hk => hk.elim) (fun _ _ => trivial) (Kd.R_alloc HO.out _) (below_alloc HB.out _) (below_size (below_alloc HB.out _)) HL.out ?_); intro v1 w1 ho hb hg hat; have HO1 := Aside0.mk ho; have HB1 := Aside0.mk hb; clear ho hb hg hat)
          go_roundw
          case rel => exact ⟨_, false, i + 1, rfl, by go_num, by omega, by simp; omega, ⟨bare_take _ _ _ _ _ _ HD.out HX.out HG.out⟩, HO1, HB1⟩
          case measure => simp [intOf]; omega
    · have hie : i = l0.length := by omega
      subst hie
      go_wp2
      try rw [Exit.noGoto_ret]
      go_ret
      refine ⟨_, rfl, ?_, HB.out⟩
      have := HX.out
      rw [List.drop_length] at this
      simp only [bareF, List.append_nil] at this
      rw [← this]
      exact HO.out
end Go.Proofs.Ytonfmnohmigjpaa.P
