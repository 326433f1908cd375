-- Written by wip/pr.py (the kit's printer, driven for functions that are proved by hand beside it), and put together by wip/mg.py.
import Derived.Test.YtonfmnohmigjpaaPhs
/- Trigraphs at the beginning of a text, and small laws. -/
namespace Go.Proofs.Ytonfmnohmigjpaa.P
open Go.RowKit Go.Proofs.YtonfmnohmigjpaaW.PrintWords Go.Proofs.YtonfmnohmigjpaaW.PrintLast Go.Proofs.YtonfmnohmigjpaaW.PrintMore
/-- The trigraph at the beginning, and what it stands for. -/
def triU : List UInt8 → Option UInt8
  | a :: b :: c :: _ => if a = 63 ∧ b = 63 then thirdU c else none
  | _ => none
theorem triU_cons (a b c : UInt8) (r : List UInt8) : triU (a :: b :: c :: r) = if a = 63 ∧ b = 63 then thirdU c else none := rfl
theorem parts_tri (a : UInt8) (r : List UInt8) (h : (triU (a :: r)).isSome = true) : parts (a :: r) = true := by
  cases r with
  | nil => simp [triU] at h
  | cons b r =>
    cases r with
    | nil => simp [triU] at h
    | cons c r =>
      rw [triU_cons] at h
      split at h
      · rename_i e
        rw [parts_cons, if_neg (by rw [e.1]; decide), if_pos e]
        exact h
      · simp at h
def partsN (a : UInt8) : List UInt8 → Bool
  | b :: _ => decide (a = 92) && b == 10
  | [] => false
theorem parts_not (a : UInt8) (r : List UInt8) (h : triU (a :: r) = none) : parts (a :: r) = partsN a r := by
  cases r with
  | nil => rfl
  | cons b r =>
    rw [parts_cons, show partsN a (b :: r) = (decide (a = 92) && b == 10) from rfl]
    by_cases c : a = 92
    · rw [if_pos c]; simp [c]
    · rw [if_neg c]
      simp only [c, decide_false, Bool.false_and]
      split
      · rename_i e
        cases r with
        | nil => rfl
        | cons d r =>
          rw [triU_cons, if_pos e] at h
          simp [parts3, h]
      · rfl
def nums8 (l : List UInt8) : List Int := l.map fun c => (c.toNat : Int)
theorem nums8_len (l : List UInt8) : (nums8 l).length = l.length := List.length_map _
theorem strOf8 (l : List UInt8) : strOfNums (nums8 l) = ⟨l.toArray⟩ := by
  unfold strOfNums nums8
  rw [List.map_map]
  congr 2
  conv => rhs; rw [← List.map_id l]
  exact List.map_congr_left fun c _ => by simp
theorem nums8_snoc (l : List UInt8) (c : UInt8) : nums8 l ++ [(c.toNat : Int)] = nums8 (l ++ [c]) := by simp [nums8]
theorem nums8_two (l : List UInt8) : nums8 l ++ [92, 10] = nums8 (l ++ [92, 10]) := by simp [nums8]

end Go.Proofs.Ytonfmnohmigjpaa.P
/- A text's pieces, as plain lists: each character, or splice, with the place where it stands. -/
namespace Go.Proofs.Ytonfmnohmigjpaa.P
open Go.RowKit Go.Proofs.YtonfmnohmigjpaaW.PrintWords Go.Proofs.YtonfmnohmigjpaaW.PrintLast Go.Proofs.YtonfmnohmigjpaaW.PrintMore

/-- The character at the beginning, splices aside: its byte, how many bytes it has. -/
def oneR (a : UInt8) : Option UInt8 → UInt8 × Nat
  | some c => (c, 3)
  | none => (a, 1)
def oneL : List UInt8 → UInt8 × Nat
  | [] => (0, 1)
  | a :: r => oneR a (triU (a :: r))
theorem oneL_cons (a : UInt8) (r : List UInt8) : oneL (a :: r) = oneR a (triU (a :: r)) := rfl
def startsQQ : List UInt8 → Bool
  | a :: b :: _ => a == 63 && b == 63
  | _ => false
theorem hasPrefixQQ (s : ByteArray) (i : Nat) (h : i < s.size) : strings_HasPrefix.f (s.extract i s.size) (⟨#[63, 63]⟩ : ByteArray) = some (startsQQ ((L s).drop i)) := by
  have hz := size_extract s i (by omega)
  have hl : (L (s.extract i s.size)) = (L s).drop i := by
    rw [L_extract, List.take_of_length_le (by rw [List.length_drop, L_length]; omega)]
  unfold strings_HasPrefix.f stringslite_HasPrefix.f
  rw [hz]
  rw [show ((⟨#[63, 63]⟩ : ByteArray).size : Int) = 2 from rfl, show (2 : Int).toNat = 2 from rfl, show (⟨#[63, 63]⟩ : ByteArray).toList = [63, 63] from toList_L _]
  by_cases h2 : i + 1 < s.size
  · rw [if_pos (by omega), if_pos (by omega), if_pos (by omega), Option.bind_some, toList_L, L_extract, hl, drop_at s i h, drop_at s (i + 1) h2]
    simp [startsQQ]
  · rw [if_neg (by omega), Option.bind_some, drop_at s i h, List.drop_eq_nil_of_le (show (L s).length ≤ i + 1 by rw [L_length]; omega)]
    rfl
theorem one_f (s : ByteArray) (i : Nat) (h : i < s.size) (hs : s.size ≤ 140737488351232) (k : Nat) :
    phys_one.f (k + 1) s (i : Int) = some (((oneL ((L s).drop i)).1.toNat : Int), ((oneL ((L s).drop i)).2 : Int)) := by
  have e2 : wrap64 ((i : Int) + 2) = ((i + 2 : Nat) : Int) := w64_add i s.size 2 (by omega) hs (by omega)
  unfold phys_one.f
  rw [if_pos (by omega), if_pos (by omega), Int.toNat_natCast, hasPrefixQQ s i h, Option.bind_some]
  simp only [phys_one.j0]
  rw [e2, btA, btA, drop_at s i h]
  by_cases h1 : i + 1 < s.size
  · rw [drop_at s (i + 1) h1]
    by_cases hq : at_ s i = 63 ∧ at_ s (i + 1) = 63
    · rw [if_pos (show startsQQ (at_ s i :: at_ s (i + 1) :: List.drop (i + 1 + 1) (L s)) = true by simp [startsQQ, hq.1, hq.2])]
      by_cases h2 : i + 2 < s.size
      · rw [if_pos (decide_eq_true (by omega)), if_pos (by omega), if_pos (by omega), third_f, Option.bind_some, drop_at s (i + 1 + 1) h2]
        rw [oneL_cons, triU_cons, if_pos hq, show i + 1 + 1 = i + 2 from rfl]
        cases hc : thirdU (at_ s (i + 2)) with
        | some c => rw [if_pos (show (thirdR (some c)).2 = true from rfl)]; rfl
        | none => rw [if_neg (show ¬ (thirdR none).2 = true by decide), if_pos (by omega), if_pos (by omega)]; rfl
      · rw [if_neg (by rw [decide_eq_true_iff]; omega), if_pos (by omega), if_pos (by omega), List.drop_eq_nil_of_le (show (L s).length ≤ i + 1 + 1 by rw [L_length]; omega)]
        rfl
    · rw [if_neg (show ¬ startsQQ (at_ s i :: at_ s (i + 1) :: List.drop (i + 1 + 1) (L s)) = true by simpa [startsQQ] using hq), if_neg (by decide), if_pos (by omega), if_pos (by omega)]
      have : triU (at_ s i :: at_ s (i + 1) :: List.drop (i + 1 + 1) (L s)) = none := by
        cases List.drop (i + 1 + 1) (L s) with
        | nil => rfl
        | cons c r => rw [triU_cons, if_neg hq]
      rw [oneL_cons, this]
      rfl
  · rw [List.drop_eq_nil_of_le (show (L s).length ≤ i + 1 by rw [L_length]; omega)]
    rw [if_neg (show ¬ startsQQ [at_ s i] = true by simp [startsQQ]), if_neg (by decide), if_pos (by omega), if_pos (by omega)]
    rfl

/-- The pieces from a place on (k: at least as many as there are bytes). -/
def piecesL : Nat → Nat → List UInt8 → List (S55 × Bool)
  | 0, _, _ => []
  | _, _, [] => []
  | k + 1, at0, a :: r =>
    if (oneL (a :: r)).1 = 92 ∧ ((a :: r).drop (oneL (a :: r)).2).head? = some 10
    then (⟨((oneL (a :: r)).1.toNat : Int), at0, (((oneL (a :: r)).2 + 1 : Nat) : Int)⟩, true) :: piecesL k (at0 + ((oneL (a :: r)).2 + 1)) ((a :: r).drop ((oneL (a :: r)).2 + 1))
    else (⟨((oneL (a :: r)).1.toNat : Int), at0, ((oneL (a :: r)).2 : Int)⟩, false) :: piecesL k (at0 + (oneL (a :: r)).2) ((a :: r).drop (oneL (a :: r)).2)
theorem oneL_le (a : UInt8) (r : List UInt8) : 1 ≤ (oneL (a :: r)).2 ∧ (oneL (a :: r)).2 ≤ (a :: r).length := by
  rw [oneL_cons]
  cases h : triU (a :: r) with
  | none => simp [oneR]
  | some c =>
    simp only [oneR]
    match r, h with
    | b :: d :: r, _ => simp
    | [b], h => simp [triU] at h
    | [], h => simp [triU] at h
theorem piecesL_fuel : ∀ (k : Nat) (i : Nat) (l : List UInt8), l.length ≤ k → piecesL k i l = piecesL l.length i l := by
  intro k
  induction k using Nat.strongRecOn with
  | _ k ih =>
    intro i l hl
    cases l with
    | nil => cases k <;> rfl
    | cons a r =>
      cases k with
      | zero => simp at hl
      | succ k =>
        have h1 := oneL_le a r
        simp only [List.length_cons] at hl h1
        simp only [piecesL, List.length_cons]
        split
        · congr 1
          rw [ih k (by omega) _ _ (by simp only [List.length_drop, List.length_cons]; omega)]
          by_cases hk : r.length = k
          · rw [ih r.length (by omega) _ _ (by simp only [List.length_drop, List.length_cons]; omega)]
          · rw [ih r.length (by omega) _ _ (by simp only [List.length_drop, List.length_cons]; omega)]
        · congr 1
          rw [ih k (by omega) _ _ (by simp only [List.length_drop, List.length_cons]; omega)]
          rw [ih r.length (by omega) _ _ (by simp only [List.length_drop, List.length_cons]; omega)]
/-- The pieces from a place on. -/
def piecesF (i : Nat) (l : List UInt8) : List (S55 × Bool) := piecesL l.length i l
/-- The first piece: its byte, how many bytes it has with a line's end, whether it is a splice. -/
def isSpl (l : List UInt8) : Bool := decide ((oneL l).1 = 92) && (l.drop (oneL l).2).head? == some 10
def lenP (l : List UInt8) : Nat := if isSpl l then (oneL l).2 + 1 else (oneL l).2
theorem piecesF_nil (i : Nat) : piecesF i [] = [] := rfl
theorem piecesF_cons (i : Nat) (a : UInt8) (r : List UInt8) :
    piecesF i (a :: r) = (⟨((oneL (a :: r)).1.toNat : Int), i, (lenP (a :: r) : Int)⟩, isSpl (a :: r)) :: piecesF (i + lenP (a :: r)) ((a :: r).drop (lenP (a :: r))) := by
  unfold piecesF
  have h1 := oneL_le a r
  rw [List.length_cons]
  simp only [piecesL]
  by_cases c : (oneL (a :: r)).1 = 92 ∧ ((a :: r).drop (oneL (a :: r)).2).head? = some 10
  · have hs : isSpl (a :: r) = true := by unfold isSpl; rw [c.2]; simp [c.1]
    rw [if_pos c]
    unfold lenP
    rw [if_pos hs, hs]
    congr 1
    exact piecesL_fuel _ _ _ (by simp only [List.length_drop, List.length_cons]; omega)
  · have hs : isSpl (a :: r) = false := by
      unfold isSpl
      rw [Bool.eq_false_iff]
      intro e
      simp only [Bool.and_eq_true, decide_eq_true_eq, beq_iff_eq] at e
      exact c e
    rw [if_neg c]
    unfold lenP
    rw [hs, if_neg (by decide)]
    congr 1
    exact piecesL_fuel _ _ _ (by simp only [List.length_drop, List.length_cons]; omega)
theorem lenP_le (a : UInt8) (r : List UInt8) : 1 ≤ lenP (a :: r) ∧ lenP (a :: r) ≤ (a :: r).length := by
  have h1 := oneL_le a r
  unfold lenP
  split
  · rename_i h
    refine ⟨by omega, ?_⟩
    unfold isSpl at h
    simp only [Bool.and_eq_true, beq_iff_eq] at h
    have h2 := h.2
    rcases Nat.lt_or_ge (oneL (a :: r)).2 (a :: r).length with h3 | h3
    · omega
    · rw [List.drop_eq_nil_of_le h3] at h2
      simp at h2
  · exact h1
end Go.Proofs.Ytonfmnohmigjpaa.P
