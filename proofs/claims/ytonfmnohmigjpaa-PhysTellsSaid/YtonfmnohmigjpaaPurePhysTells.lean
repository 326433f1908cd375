/- The plain law PhysTells: the program's characters, splices, logical text and check are the document's; and writing on what was answered changes no later answer. -/
import Derived.Test.YtonfmnohmigjpaaRef2
namespace Go.Proofs.Ytonfmnohmigjpaa.P
open Go.RowKit Go.Proofs.YtonfmnohmigjpaaW.PrintWords Go.Proofs.YtonfmnohmigjpaaW.PrintLast

theorem same55_l (l : List S55) (hn : l.length ≤ 65536) : ∀ (d i : Nat), i ≤ l.length → l.length - i = d → Ev (fun k => regletref01_SameChars.l0 k l l (i : Int)) true := by
  intro d
  induction d with
  | zero =>
    intro i h1 hd
    refine Ev.done1 fun k => ?_
    simp only [regletref01_SameChars.l0]
    rw [if_neg (by omega)]
  | succ d ih =>
    intro i h1 hd
    refine Ev.steps1 (f := fun k => regletref01_SameChars.l0 k l l ((i + 1 : Nat) : Int)) (fun k => ?_) (ih (i + 1) (by omega) (by omega))
    simp only [regletref01_SameChars.l0]
    rw [if_pos (by omega), if_pos (by omega), if_pos (by omega), if_neg (by simp)]
    rw [show wrap64 ((i : Int) + 1) = ((i + 1 : Nat) : Int) by unfold wrap64; omega]
theorem same55 (l : List S55) (hn : l.length ≤ 65536) : Ev (fun k => regletref01_SameChars.f k l l) true := by
  refine Ev.congr (f := fun k => regletref01_SameChars.l0 k l l ((0 : Nat) : Int)) (fun k => ?_) (same55_l l hn _ 0 (Nat.zero_le _) rfl)
  unfold regletref01_SameChars.f
  rw [if_pos rfl]; rfl
theorem same70_l (l : List S70) (hn : l.length ≤ 65536) : ∀ (d i : Nat), i ≤ l.length → l.length - i = d → Ev (fun k => regletref01_SameSpans.l0 k l l (i : Int)) true := by
  intro d
  induction d with
  | zero =>
    intro i h1 hd
    refine Ev.done1 fun k => ?_
    simp only [regletref01_SameSpans.l0]
    rw [if_neg (by omega)]
  | succ d ih =>
    intro i h1 hd
    refine Ev.steps1 (f := fun k => regletref01_SameSpans.l0 k l l ((i + 1 : Nat) : Int)) (fun k => ?_) (ih (i + 1) (by omega) (by omega))
    simp only [regletref01_SameSpans.l0]
    rw [if_pos (by omega), if_pos (by omega), if_pos (by omega), if_neg (by simp)]
    rw [show wrap64 ((i : Int) + 1) = ((i + 1 : Nat) : Int) by unfold wrap64; omega]
theorem same70 (l : List S70) (hn : l.length ≤ 65536) : Ev (fun k => regletref01_SameSpans.f k l l) true := by
  refine Ev.congr (f := fun k => regletref01_SameSpans.l0 k l l ((0 : Nat) : Int)) (fun k => ?_) (same70_l l hn _ 0 (Nat.zero_le _) rfl)
  unfold regletref01_SameSpans.f
  rw [if_pos rfl]; rfl
theorem splR_le (s : ByteArray) : (splR (L s)).1.length ≤ 65536 := by
  unfold splR
  split
  · rename_i h
    have h1 := checkR_small h
    have h2 := splOf_le (piecesF 0 (L s))
    have h3 := piecesF_le 0 (L s)
    rw [L_length] at h3
    exact Nat.le_trans h2 (Nat.le_trans h3 h1)
  · simp
theorem tells_l1 (s : ByteArray) : ∀ (d i : Nat) (g : List S70), g.length ≤ 65536 → i ≤ g.length → g.length - i = d →
    Ev (fun k => regletlaw01_PhysTells.l1 k s (charsR (L s)).1 g (splR (L s)).1 (i : Int)) true := by
  intro d
  induction d with
  | zero =>
    intro i g hg h1 hd
    refine Ev.steps1 (f := fun k => (regletref01_SameChars.f k (charsR (L s)).1 (charsR (L s)).1).bind fun t => if t = true then (regletref01_SameSpans.f k (splR (L s)).1 (splR (L s)).1).bind fun t => some t else some false) (fun k => ?_) ?_
    · simp only [regletlaw01_PhysTells.l1]
      rw [if_neg (by omega)]
      unfold phys_Chars.f phys_Splices.f
      rw [Option.bind_some, Option.bind_some]
    · refine Ev.bind (same55 _ (charsR_le s)) ?_
      refine Ev.congr (fun k => by rw [if_pos rfl]) (Ev.bind (same70 _ (splR_le s)) (Ev.now true))
  | succ d ih =>
    intro i g hg h1 hd
    refine Ev.steps1 (f := fun k => regletlaw01_PhysTells.l1 k s (charsR (L s)).1 (g.set i ⟨-7, 0⟩) (splR (L s)).1 ((i + 1 : Nat) : Int)) (fun k => ?_) (ih (i + 1) _ (by rw [List.length_set]; exact hg) (by rw [List.length_set]; omega) (by rw [List.length_set]; omega))
    simp only [regletlaw01_PhysTells.l1]
    rw [if_pos (by omega), if_pos (by omega), show wrap64 ((i : Int) + 1) = ((i + 1 : Nat) : Int) by unfold wrap64; omega]
    rfl
theorem tells_l0 (s : ByteArray) : ∀ (d i : Nat) (a : List S55), a.length ≤ 65536 → i ≤ a.length → a.length - i = d →
    Ev (fun k => regletlaw01_PhysTells.l0 k s a (charsR (L s)).1 (splR (L s)).1 (splR (L s)).1 (i : Int)) true := by
  intro d
  induction d with
  | zero =>
    intro i g hg h1 hd
    refine Ev.steps1 (fun k => ?_) (tells_l1 s _ 0 (splR (L s)).1 (splR_le s) (Nat.zero_le _) rfl)
    simp only [regletlaw01_PhysTells.l0]
    rw [if_neg (by omega)]; rfl
  | succ d ih =>
    intro i g hg h1 hd
    refine Ev.steps1 (f := fun k => regletlaw01_PhysTells.l0 k s (g.set i ⟨113, -7, 0⟩) (charsR (L s)).1 (splR (L s)).1 (splR (L s)).1 ((i + 1 : Nat) : Int)) (fun k => ?_) (ih (i + 1) _ (by rw [List.length_set]; exact hg) (by rw [List.length_set]; omega) (by rw [List.length_set]; omega))
    simp only [regletlaw01_PhysTells.l0]
    rw [if_pos (by omega), if_pos (by omega), show wrap64 ((i : Int) + 1) = ((i + 1 : Nat) : Int) by unfold wrap64; omega]
    rfl
end Go.Proofs.Ytonfmnohmigjpaa.P
namespace Go.Proofs.Ytonfmnohmigjpaa.Pure
open Go.RowKit Go.Proofs.Ytonfmnohmigjpaa.P Go.Proofs.YtonfmnohmigjpaaW.PrintWords Go.Proofs.YtonfmnohmigjpaaW.PrintLast
theorem PhysTells : regletlaw01_PhysTells.Pure := by
  intro s _
  refine Ev.rounds ?_
  have e2 : (splR (L s)).2 = (charsR (L s)).2 := by unfold splR charsR; split <;> rfl
  have e3 : (logR (L s)).2 = (charsR (L s)).2 := rfl
  unfold regletlaw01_PhysTells.f phys_Chars.f phys_Logical.f phys_Splices.f phys_Check.f
  refine Ev.congr (fun k => by rw [Option.bind_some]) (Ev.bind (rchars_f s) ?_)
  refine Ev.congr (fun k => by rw [Option.bind_some]) (Ev.bind (rlog_f s) ?_)
  refine Ev.congr (fun k => by rw [Option.bind_some]) (Ev.bind (rspl_f s) ?_)
  refine Ev.congr (fun k => by rw [Option.bind_some]) (Ev.bind (same55 _ (charsR_le s)) ?_)
  refine Ev.congr (fun k => by rw [if_pos rfl, if_pos rfl, if_pos rfl, if_pos rfl]) (Ev.bind (same70 _ (splR_le s)) ?_)
  refine Ev.congr (fun k => by rw [if_pos rfl, if_pos rfl]) (Ev.bind (check_f s) ?_)
  refine Ev.steps1 (fun k => ?_) (tells_l0 s _ 0 (charsR (L s)).1 (charsR_le s) (Nat.zero_le _) rfl)
  simp only [regletlaw01_PhysTells.j0, bne_self_eq_false]
  rfl
end Go.Proofs.Ytonfmnohmigjpaa.Pure
