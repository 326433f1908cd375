/- The first layer's plain functions: what a trigraph stands for, where a splice must stand, how a text is spelt; and that the printed functions are these. -/
import Derived.Test.YtonfmnohmigjpaaPh0
import Derived.Test.YtonfmnohmigjpaaHd
import Derived.Test.YtonfmnohmigjpaaF34
import Derived.Test.YtonfmnohmigjpaaFB
namespace Go.Proofs.Ytonfmnohmigjpaa.P
open Go.RowKit Go.Proofs.YtonfmnohmigjpaaW.PrintWords Go.Proofs.YtonfmnohmigjpaaW.PrintLast Go.Proofs.YtonfmnohmigjpaaW.PrintMore

/-- What a trigraph with this third byte stands for. -/
def thirdU (c : UInt8) : Option UInt8 :=
  if c = 61 then some 35 else if c = 47 then some 92 else if c = 39 then some 94 else if c = 40 then some 91 else if c = 41 then some 93 else if c = 33 then some 124
  else if c = 60 then some 123 else if c = 62 then some 125 else if c = 45 then some 126 else none
def thirdR (o : Option UInt8) : Int × Bool := match o with | some c => ((c.toNat : Int), true) | none => (0, false)
theorem third_all : ∀ n : Fin 256, phys_Third.f (n.1 : Int) = some (thirdR (thirdU n.1.toUInt8)) := by decide +kernel
theorem third_f (c : UInt8) : phys_Third.f (c.toNat : Int) = some (thirdR (thirdU c)) := by
  have := third_all ⟨c.toNat, c.toNat_lt⟩
  rw [this]
  congr 3
  apply UInt8.toNat_inj.1
  simp

/-- Must a splice stand behind the first of these bytes? -/
def parts3 : List UInt8 → Bool
  | c :: _ => (thirdU c).isSome
  | [] => false
def parts : List UInt8 → Bool
  | a :: b :: r => if a = 92 then b == 10 else if a = 63 ∧ b = 63 then parts3 r else false
  | _ => false
theorem parts_cons (a b : UInt8) (r : List UInt8) : parts (a :: b :: r) = if a = 92 then b == 10 else if a = 63 ∧ b = 63 then parts3 r else false := rfl
theorem parted_f (s : ByteArray) (i : Nat) (h : i < s.size) (hs : s.size ≤ 140737488351232) : phys_parted.f s (i : Int) = some (parts ((L s).drop i)) := by
  have e1 : wrap64 ((i : Int) + 1) = ((i + 1 : Nat) : Int) := w64_add i s.size 1 (by omega) hs (by omega)
  have e2 : wrap64 ((i : Int) + 2) = ((i + 2 : Nat) : Int) := w64_add i s.size 2 (by omega) hs (by omega)
  unfold phys_parted.f
  rw [e1, e2, btA, btA, btA, drop_at s i h]
  by_cases h1 : i + 1 < s.size
  · rw [if_neg (by omega), if_pos (by omega), if_pos (by omega), drop_at s (i + 1) h1, parts_cons]
    by_cases c1 : at_ s i = 92
    · rw [if_pos ((u8_eq _ 92 92 rfl (by omega)).2 c1), if_pos (by omega), if_pos (by omega), if_pos c1]
      congr 1
      rw [Bool.eq_iff_iff, beq_iff_eq, beq_iff_eq]
      exact u8_eq _ 10 10 rfl (by omega)
    · rw [if_neg (fun e => c1 ((u8_eq _ 92 92 rfl (by omega)).1 e)), if_neg c1]
      by_cases c2 : at_ s i = 63
      · rw [if_pos ((u8_eq _ 63 63 rfl (by omega)).2 c2), if_pos (by omega), if_pos (by omega)]
        by_cases c3 : at_ s (i + 1) = 63
        · rw [if_pos ((u8_eq _ 63 63 rfl (by omega)).2 c3), if_pos (show at_ s i = 63 ∧ at_ s (i + 1) = 63 from ⟨c2, c3⟩)]
          by_cases h2 : i + 2 < s.size
          · rw [if_neg (by omega), if_pos (by omega), if_pos (by omega), third_f, drop_at s (i + 2) h2]
            simp only [Option.bind_some]
            show some (thirdR (thirdU (at_ s (i + 2)))).2 = some (thirdU (at_ s (i + 2))).isSome
            cases thirdU (at_ s (i + 2)) <;> rfl
          · rw [if_pos (by omega)]
            rw [List.drop_eq_nil_of_le (by rw [L_length]; omega)]
            rfl
        · rw [if_neg (fun e => c3 ((u8_eq _ 63 63 rfl (by omega)).1 e)), if_neg (show ¬ (at_ s i = 63 ∧ at_ s (i + 1) = 63) from fun e => c3 e.2)]
      · rw [if_neg (fun e => c2 ((u8_eq _ 63 63 rfl (by omega)).1 e)), if_neg (show ¬ (at_ s i = 63 ∧ at_ s (i + 1) = 63) from fun e => c2 e.1)]
  · rw [if_pos (by omega), List.drop_eq_nil_of_le (by rw [L_length]; omega)]
    rfl
/-- How bytes are spelt. -/
def spellF : List UInt8 → List UInt8
  | [] => []
  | c :: r => if parts (c :: r) then c :: 92 :: 10 :: spellF r else c :: spellF r
theorem spellF_length (l : List UInt8) : (spellF l).length ≤ 3 * l.length := by
  induction l with
  | nil => simp [spellF]
  | cons c r ih => unfold spellF; split <;> simp <;> omega
end Go.Proofs.Ytonfmnohmigjpaa.P
