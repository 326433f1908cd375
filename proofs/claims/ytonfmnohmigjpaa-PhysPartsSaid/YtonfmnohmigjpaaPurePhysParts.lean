/- The plain law PhysParts: the characters of two texts that end well, one behind the other, are those of the first one, and then those of the second one. -/
import Derived.Test.YtonfmnohmigjpaaF7
import Derived.Test.YtonfmnohmigjpaaPsh
namespace Go.Proofs.Ytonfmnohmigjpaa.P
open Go.RowKit Go.Proofs.YtonfmnohmigjpaaW.PrintWords Go.Proofs.YtonfmnohmigjpaaW.PrintLast
theorem rd55_app1 (l m : List S55) (i : Nat) (h : i < l.length) : rd_T55 (l ++ m) (i : Int) = rd_T55 l (i : Int) := by
  simp [rd_T55, List.getD_eq_getElem?_getD, List.getElem?_append_left h]
theorem rd55_app2 (l m : List S55) (i : Nat) (n : Nat) (h : i < m.length) : rd_T55 (l ++ m.map (shC n)) ((l.length + i : Nat) : Int) = shC n (rd_T55 m (i : Int)) := by
  unfold rd_T55
  rw [Int.toNat_natCast, Int.toNat_natCast, List.getD_eq_getElem?_getD, List.getElem?_append_right (by omega), Nat.add_sub_cancel_left]
  simp [List.getD_eq_getElem?_getD, h]
theorem parts_l0 (a : ByteArray) (l m : List S55) (ha : a.size ≤ 65536) (hl : l.length ≤ 65536) (hm : m.length ≤ 65536) (hb : ∀ c ∈ m, 0 ≤ c.f1 ∧ c.f1 < 65536) :
    ∀ (d i : Nat), i ≤ l.length + m.length → l.length + m.length - i = d → Ev (fun k => regletlaw01_PhysParts.l0 k a true l m (l ++ m.map (shC a.size)) (i : Int)) true := by
  intro d
  have hN : (l ++ m.map (shC a.size)).length = l.length + m.length := by rw [List.length_append, List.length_map]
  induction d with
  | zero =>
    intro i h1 hd
    refine Ev.done1 fun k => ?_
    rw [regletlaw01_PhysParts.l0, hN, if_neg (by omega)]
  | succ d ih =>
    intro i h1 hd
    refine Ev.steps1 (fun k => ?_) (ih (i + 1) (by omega) (by omega))
    have hw : wrap64 ((i : Int) + 1) = ((i + 1 : Nat) : Int) := by unfold wrap64; omega
    rw [regletlaw01_PhysParts.l0, hN, if_pos (by omega), hw]
    by_cases h : i < l.length
    · rw [if_pos (by omega), if_pos (by omega), rd55_app1 l _ i h, beq_self_eq_true, beq_self_eq_true, beq_self_eq_true, if_neg (by decide), if_neg (by omega)]
    · obtain ⟨j, rfl⟩ : ∃ j, i = l.length + j := ⟨i - l.length, by omega⟩
      have hw2 : wrap64 (((l.length + j : Nat) : Int) - (l.length : Int)) = (j : Int) := by unfold wrap64; omega
      have hj : j < m.length := by omega
      have hb' := hb _ (rd55_mem m j hj)
      have hw3 : wrap64 ((rd_T55 m (j : Int)).f1 + (a.size : Int)) = (rd_T55 m (j : Int)).f1 + (a.size : Int) := by unfold wrap64; omega
      rw [hw2, rd55_app2 l m j a.size hj, hw3]
      rw [if_neg (by omega), if_pos (by omega), if_pos (by omega), if_pos (by omega), if_pos (by omega)]
      rw [show (shC a.size (rd_T55 m (j : Int))).f0 = (rd_T55 m (j : Int)).f0 from rfl, show (shC a.size (rd_T55 m (j : Int))).f1 = (rd_T55 m (j : Int)).f1 + (a.size : Int) from rfl, show (shC a.size (rd_T55 m (j : Int))).f2 = (rd_T55 m (j : Int)).f2 from rfl]
      rw [beq_self_eq_true, beq_self_eq_true, beq_self_eq_true, if_neg (by decide)]
end Go.Proofs.Ytonfmnohmigjpaa.P
namespace Go.Proofs.Ytonfmnohmigjpaa.Pure
open Go.RowKit Go.Proofs.Ytonfmnohmigjpaa.P Go.Proofs.YtonfmnohmigjpaaW.PrintWords Go.Proofs.YtonfmnohmigjpaaW.PrintLast
theorem PhysParts : regletlaw01_PhysParts.Pure := by
  intro a b za zb
  refine Ev.rounds ?_
  unfold regletlaw01_PhysParts.f phys_Chars.f
  have hw : wrap64 ((a.size : Int) + (b.size : Int)) = ((a.size + b.size : Nat) : Int) := by unfold wrap64; omega
  rw [hw]
  have hj : ∀ n g, Ev (fun k => regletlaw01_PhysParts.j0 k a true (charsR (L a)).1 (charsR (L a)).2 (charsR (L b)).1 n g true) true := by
    intro n g
    refine Ev.done1 fun k => ?_
    rw [regletlaw01_PhysParts.j0, if_pos rfl, if_pos rfl]
    unfold charsR
    by_cases hc : checkR (L a) = 0
    · rw [if_pos hc, if_pos rfl]
    · rw [if_neg hc, if_neg hc]; rfl
  refine Ev.congr (fun k => by rw [alive_true, Option.bind_some, Option.bind_some, Option.bind_some, if_pos (by omega), Option.bind_some]) ?_
  by_cases ha : (charsR (L a)).2 = 0
  · refine Ev.congr (fun k => by rw [if_pos ha]) ?_
    by_cases hb : (charsR (L b)).2 = 0
    · refine Ev.congr (fun k => by rw [if_pos hb]) ?_
      by_cases hz : a.size + b.size > 65536
      · refine Ev.congr (fun k => by rw [decide_eq_true (show ((a.size + b.size : Nat) : Int) > 65536 by omega)]) (hj _ _)
      · refine Ev.congr (fun k => by rw [decide_eq_false (show ¬ ((a.size + b.size : Nat) : Int) > 65536 by omega)]) ?_
        have ca : checkR (L a) = 0 := by unfold charsR at ha; split at ha; { assumption }; { exact ha }
        have cb : checkR (L b) = 0 := by unfold charsR at hb; split at hb; { assumption }; { exact hb }
        obtain ⟨p1, p2⟩ := parts_app (L a) (L b) ca cb (by rw [L_length, L_length]; omega)
        rw [← L_app] at p1 p2
        have la := charsR_le a
        have lb := charsR_le b
        have ea : charsR (L a) = (charsOf (piecesF 0 (L a)), 0) := by unfold charsR; rw [if_pos ca]
        have eb : charsR (L b) = (charsOf (piecesF 0 (L b)), 0) := by unfold charsR; rw [if_pos cb]
        have en : charsR (L (a ++ b)) = (charsOf (piecesF 0 (L a)) ++ (charsOf (piecesF 0 (L b))).map (shC a.size), 0) := by unfold charsR; rw [if_pos p1, p2, L_length]
        rw [ea] at la
        rw [eb] at lb
        rw [ea, eb, en]
        have bd := charsOf_bd (L b)
        rw [L_length] at bd
        have hw2 : wrap64 (((charsOf (piecesF 0 (L a))).length : Int) + ((charsOf (piecesF 0 (L b))).length : Int)) = (((charsOf (piecesF 0 (L a))).length + (charsOf (piecesF 0 (L b))).length : Nat) : Int) := by unfold wrap64; dsimp only at la lb; omega
        refine Ev.steps1 (f := fun k => regletlaw01_PhysParts.j1 k a true (charsOf (piecesF 0 (L a))) (charsOf (piecesF 0 (L b))) (charsOf (piecesF 0 (L a)) ++ (charsOf (piecesF 0 (L b))).map (shC a.size)) false) (fun k => ?_) ?_
        · rw [regletlaw01_PhysParts.j0, if_neg (by decide), if_pos rfl, hw2, List.length_append, List.length_map, bne_self_eq_false]
        · refine Ev.steps1 (fun k => by rw [regletlaw01_PhysParts.j1, if_neg (by decide)]; rfl) (parts_l0 a _ _ (by omega) la lb ?_ _ 0 (Nat.zero_le _) rfl)
          intro c hc
          have := bd c hc
          omega
    · exact Ev.congr (fun k => by rw [if_neg hb]) (hj _ _)
  · exact Ev.congr (fun k => by rw [if_neg ha]) (hj _ _)
end Go.Proofs.Ytonfmnohmigjpaa.Pure
