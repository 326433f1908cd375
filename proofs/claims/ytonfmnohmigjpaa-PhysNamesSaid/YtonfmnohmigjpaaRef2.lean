/- The reference's Check, Chars, Splices, Logical (regletref01) answer as the program's do. -/
import Derived.Test.YtonfmnohmigjpaaRef1
namespace Go.Proofs.Ytonfmnohmigjpaa.P
open Go.RowKit Go.Proofs.YtonfmnohmigjpaaW.PrintWords Go.Proofs.YtonfmnohmigjpaaW.PrintLast Go.Proofs.YtonfmnohmigjpaaW.PrintMore

theorem lastOf_ne (d d' : Bool) (ps : List (S55 × Bool)) (h : ps ≠ []) : lastOf d ps = lastOf d' ps := by
  cases ps with
  | nil => exact absurd rfl h
  | cons p ps => rfl
/-- A splice ends the text: the last piece is one. -/
theorem ends_last (n : Nat) : ∀ (l : List UInt8) (i : Nat) (N : Nat), l.length = n → N = i + l.length → N ≤ 65536 → (piecesF i l).any (badP N) = lastOf false (piecesF i l) := by
  induction n using Nat.strongRecOn with
  | _ n ih =>
    intro l i N hn hN h6
    cases l with
    | nil => rfl
    | cons a r =>
      have hl := lenP_le a r
      rw [piecesF_cons, List.any_cons]
      have h2 := ih ((a :: r).drop (lenP (a :: r))).length (by rw [List.length_drop]; omega) _ (i + lenP (a :: r)) N rfl (by rw [List.length_drop]; omega) h6
      rw [h2]
      generalize lenP (a :: r) = m at *
      generalize isSpl (a :: r) = z at *
      have hb : badP N (⟨((oneL (a :: r)).1.toNat : Int), i, (m : Int)⟩, z) = (z && decide (i + m = N)) := by
        unfold badP
        rw [show wrap64 ((i : Int) + (m : Int)) = ((i + m : Nat) : Int) by unfold wrap64; omega]
        congr 1
        rw [Bool.eq_iff_iff, beq_iff_eq, decide_eq_true_iff]; omega
      rw [hb]
      by_cases he : i + m = N
      · rw [List.drop_eq_nil_of_le (by omega), piecesF_nil]
        simp [he, lastOf]
      · have hne : (a :: r).drop m ≠ [] := fun e => by have := congrArg List.length e; rw [List.length_drop] at this; simp only [List.length_nil] at this; omega
        obtain ⟨b, t, hbt⟩ := List.exists_cons_of_ne_nil hne
        rw [decide_eq_false he, Bool.and_false, Bool.false_or]
        show _ = lastOf z _
        refine lastOf_ne _ _ _ ?_
        rw [hbt, piecesF_cons]; simp
theorem both_f (s : ByteArray) (hs : s.size ≤ 65536) : Ev (fun k => regletref01_Both.f k s) (charsOf (piecesF 0 (L s)), splOf (piecesF 0 (L s)), lastOf false (piecesF 0 (L s))) := by
  have h := both_l s hs s.size 0 [] [] false (Nat.zero_le _) (by omega) (Nat.le_refl _) (Nat.le_refl _)
  refine Ev.congr (f := fun k => regletref01_Both.l0 k s [] [] false ((0 : Nat) : Int)) (fun k => rfl) ?_
  simpa using h
theorem check_f (s : ByteArray) : Ev (fun k => regletref01_Check.f k s) (checkR (L s)) := by
  by_cases h1 : s.size > 65536
  · refine Ev.congr (fun k => ?_) (Ev.now _)
    unfold regletref01_Check.f checkR
    rw [if_pos (by omega), if_pos (by rw [L_length]; exact h1)]
  · have hE := ends_last (L s).length (L s) 0 s.size rfl (by rw [L_length]; omega) (by omega)
    refine Ev.congr (fun k => by unfold regletref01_Check.f; rw [if_neg (by omega)]) (Ev.bind (both_f s (by omega)) ?_)
    refine Ev.congr (fun k => ?_) (Ev.now _)
    unfold checkR
    rw [if_neg (show ¬ (L s).length > 65536 by rw [L_length]; exact h1), L_length, hE]
    by_cases h0 : s.size = 0
    · rw [if_neg (by omega), if_pos (List.eq_nil_of_length_eq_zero (by rw [L_length]; exact h0))]
    · rw [if_pos (by omega), if_neg (show ¬ L s = [] from fun e => h0 (by rw [← L_length, e]; rfl))]
      have e1 : wrap64 ((s.size : Int) - 1) = ((s.size - 1 : Nat) : Int) := by unfold wrap64; omega
      rw [e1, btA, show (L s).getD (s.size - 1) 0 = at_ s (s.size - 1) from rfl]
      show (if lastOf false (piecesF 0 (L s)) = true then _ else _) = _
      cases hl : lastOf false (piecesF 0 (L s)) with
      | true =>
        rw [if_pos rfl]
        split
        · rfl
        · rfl
      | false =>
        rw [if_neg (by decide), if_pos (by omega), if_pos (by omega)]
        by_cases c : at_ s (s.size - 1) = 10
        · rw [if_pos ((u8_eq _ 10 10 rfl (by omega)).2 c), if_neg (fun e => e c)]; rfl
        · rw [if_neg (fun e => c ((u8_eq _ 10 10 rfl (by omega)).1 e)), if_pos c]
theorem rchars_f (s : ByteArray) : Ev (fun k => regletref01_Chars.f k s) (charsR (L s)) := by
  refine Ev.congr (fun k => by unfold regletref01_Chars.f; rfl) (Ev.bind (check_f s) ?_)
  unfold charsR
  by_cases hc : checkR (L s) = 0
  · refine Ev.congr (fun k => by rw [if_pos hc]) (Ev.bind (both_f s (checkR_small hc)) ?_)
    rw [if_pos hc]
    exact Ev.now _
  · refine Ev.congr (fun k => by rw [if_neg hc]) ?_
    rw [if_neg hc]
    exact Ev.now _
theorem rspl_f (s : ByteArray) : Ev (fun k => regletref01_Splices.f k s) (splR (L s)) := by
  refine Ev.congr (fun k => by unfold regletref01_Splices.f; rfl) (Ev.bind (check_f s) ?_)
  unfold splR
  by_cases hc : checkR (L s) = 0
  · refine Ev.congr (fun k => by rw [if_pos hc]) (Ev.bind (both_f s (checkR_small hc)) ?_)
    rw [if_pos hc]
    exact Ev.now _
  · refine Ev.congr (fun k => by rw [if_neg hc]) ?_
    rw [if_neg hc]
    exact Ev.now _
theorem rlog_l (cs : List S55) (e : Int) (hn : cs.length ≤ 65536) (hb : ∀ c ∈ cs, ∃ b : UInt8, c.f0 = (b.toNat : Int)) : ∀ (d i : Nat) (xs : List UInt8), i ≤ cs.length → cs.length - i = d → xs.length ≤ i →
    Ev (fun k => regletref01_Logical.l0 k cs e (nums8 xs) (i : Int)) (⟨(xs ++ bytesL (cs.drop i)).toArray⟩, e) := by
  intro d
  induction d with
  | zero =>
    intro i xs h1 hd hx
    refine Ev.done1 fun k => ?_
    simp only [regletref01_Logical.l0]
    rw [if_neg (by omega), List.drop_eq_nil_of_le (by omega), strOf8]
    simp [bytesL]
  | succ d ih =>
    intro i xs h1 hd hx
    have hi : i < cs.length := by omega
    obtain ⟨b, hbb⟩ := hb _ (rd55_mem cs i hi)
    have h2 := ih (i + 1) (xs ++ [b]) (by omega) (by omega) (by rw [List.length_append, List.length_singleton]; omega)
    refine Ev.steps1 (f := fun k => regletref01_Logical.l0 k cs e (nums8 (xs ++ [b])) ((i + 1 : Nat) : Int)) (fun k => ?_) ?_
    · simp only [regletref01_Logical.l0]
      rw [if_pos (by omega), if_pos (by omega), if_pos (by rw [nums8_len]; omega), hbb, nums8_snoc]
      rw [show wrap64 ((i : Int) + 1) = ((i + 1 : Nat) : Int) by unfold wrap64; omega]
    · rw [drop_rd55 cs i hi, bytesL_cons, hbb]
      simpa using h2
theorem rlog_f (s : ByteArray) : Ev (fun k => regletref01_Logical.f k s) (⟨(logR (L s)).1.toArray⟩, (logR (L s)).2) := by
  refine Ev.congr (fun k => by unfold regletref01_Logical.f; rfl) (Ev.bind (rchars_f s) ?_)
  have h := rlog_l (charsR (L s)).1 (charsR (L s)).2 (charsR_le s) (charsR_byte (L s)) _ 0 [] (Nat.zero_le _) rfl (Nat.le_refl _)
  simpa [nums8, logR] using h
end Go.Proofs.Ytonfmnohmigjpaa.P
