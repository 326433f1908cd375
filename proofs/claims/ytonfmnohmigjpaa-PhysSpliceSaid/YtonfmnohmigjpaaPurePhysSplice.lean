/- The plain law PhysSplice: a splice more, ahead of any character, changes nothing of the logical text. -/
import Derived.Test.YtonfmnohmigjpaaF8
import Derived.Test.YtonfmnohmigjpaaPsh
namespace Go.Proofs.Ytonfmnohmigjpaa.Pure
open Go.RowKit Go.Proofs.Ytonfmnohmigjpaa.P Go.Proofs.YtonfmnohmigjpaaW.PrintWords Go.Proofs.YtonfmnohmigjpaaW.PrintLast
theorem PhysSplice : regletlaw01_PhysSplice.Pure := by
  intro s z _ _
  refine ⟨1, ?_⟩
  unfold regletlaw01_PhysSplice.f phys_Chars.f
  rw [alive_true, Option.bind_some, Option.bind_some]
  have hj : ∀ cs, regletlaw01_PhysSplice.j0 1 s z true cs true = some true := fun cs => by rw [regletlaw01_PhysSplice.j0, if_pos rfl]
  by_cases hc : checkR (L s) = 0
  · have h1 : charsR (L s) = (charsOf (piecesF 0 (L s)), 0) := by unfold charsR; rw [if_pos hc]
    have hs := checkR_small hc
    rw [h1, if_pos rfl]
    dsimp only
    by_cases z0 : z < 0
    · rw [if_pos z0]; exact hj _
    rw [if_neg z0]
    by_cases z1 : z ≥ ((charsOf (piecesF 0 (L s))).length : Int)
    · rw [if_pos z1]; exact hj _
    rw [if_neg z1]
    have hw : wrap64 ((s.size : Int) + 2) = ((s.size + 2 : Nat) : Int) := by unfold wrap64; omega
    rw [hw]
    by_cases z2 : s.size + 2 > 65536
    · rw [decide_eq_true (show ((s.size + 2 : Nat) : Int) > 65536 by omega)]; exact hj _
    rw [decide_eq_false (show ¬ ((s.size + 2 : Nat) : Int) > 65536 by omega)]
    obtain ⟨i, rfl⟩ : ∃ i : Nat, z = (i : Int) := ⟨z.toNat, by omega⟩
    have hi : i < (charsOf (piecesF 0 (L s))).length := by omega
    have hlen : (L s).length + 2 ≤ 65536 := by rw [L_length]; omega
    obtain ⟨n, n1, n2, n3, n4⟩ := splice_more (L s) hc hlen i _ _ (drop_rd55 _ i hi)
    rw [L_length] at n1
    rw [regletlaw01_PhysSplice.j0, if_neg (by decide), n2]
    unfold phys_Logical.f
    have e1 : L ((s.extract 0 n ++ (⟨#[92, 10]⟩ : ByteArray)) ++ s.extract n s.size) = (L s).take n ++ 92 :: 10 :: (L s).drop n := by
      rw [L_app, L_app, L_extract, L_extract, List.drop_zero, Nat.sub_zero, List.take_of_length_le (l := (L s).drop n) (by rw [List.length_drop, L_length]; omega), List.append_assoc]
      rfl
    have z3 : (s.extract 0 n).size = n := by rw [← L_length, L_extract, List.length_take, List.length_drop, L_length]; omega
    have z4 : (s.extract 0 n ++ (⟨#[92, 10]⟩ : ByteArray)).size = n + 2 := by rw [← L_length, L_app, List.length_append, L_length, z3]; rfl
    have z5 : (s.extract n s.size).size = s.size - n := size_extract s n n1
    rw [Option.bind_some, if_pos (by omega), if_pos (by omega), if_pos (by omega), if_pos (by omega), Int.toNat_natCast, z4, z5, z3, if_pos (by omega), if_pos (by omega), Option.bind_some, if_pos rfl]
    rw [e1]
    unfold logR charsR
    rw [if_pos hc, if_pos n3, if_pos rfl, if_pos rfl, n4]
    dsimp only
    rw [beq_self_eq_true]
  · have h1 : charsR (L s) = ([], checkR (L s)) := by unfold charsR; rw [if_neg hc]
    rw [h1, if_neg hc]
    exact hj _
end Go.Proofs.Ytonfmnohmigjpaa.Pure
