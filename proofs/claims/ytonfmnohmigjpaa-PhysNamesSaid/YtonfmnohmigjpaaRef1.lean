/- The reference's phys functions (regletref01) over the same lists: its splices, its loop, its check. -/
import Derived.Test.YtonfmnohmigjpaaF9
import Derived.Test.YtonfmnohmigjpaaG42
import Derived.Test.YtonfmnohmigjpaaG45
namespace Go.Proofs.Ytonfmnohmigjpaa.P
open Go.RowKit Go.Proofs.YtonfmnohmigjpaaW.PrintWords Go.Proofs.YtonfmnohmigjpaaW.PrintLast Go.Proofs.YtonfmnohmigjpaaW.PrintMore

theorem head_drop (s : ByteArray) (i : Nat) : ((L s).drop i).head? = if i < s.size then some (at_ s i) else none := by
  by_cases h : i < s.size
  · rw [if_pos h, drop_at s i h]; rfl
  · rw [if_neg h, List.drop_eq_nil_of_le (by rw [L_length]; omega)]; rfl
theorem splN {c : UInt8} {r : List UInt8} (h : triU (c :: r) = none) : isSpl (c :: r) = (decide (c = 92) && r.head? == some 10) := by
  unfold isSpl; rw [oneL_cons, h]; rfl
theorem splS {c d : UInt8} {r : List UInt8} (h : triU (c :: r) = some d) : isSpl (c :: r) = (decide (d = 92) && ((c :: r).drop 3).head? == some 10) := by
  unfold isSpl; rw [oneL_cons, h]; rfl
def spN (l : List UInt8) : Nat := if isSpl l then lenP l else 0
theorem splice_j (s : ByteArray) (i : Nat) (h : i < s.size) (hs : s.size ≤ 65536) (hno : ¬ (at_ s i = 92 ∧ ((L s).drop (i + 1)).head? = some 10)) (k : Nat) :
    regletref01_splice.j0 (k + 1) s (i : Int) false = some ((spN ((L s).drop i) : Nat) : Int) := by
  simp only [regletref01_splice.j0]
  rw [if_neg (by decide), tri_f s i h (by omega), Option.bind_some]
  have hD := drop_at s i h
  cases ht : triU ((L s).drop i) with
  | none =>
    rw [if_neg (show ¬ (thirdR none).2 = true by decide)]
    rw [hD] at ht ⊢
    unfold spN
    rw [splN ht, if_neg]
    · rfl
    · simp only [Bool.and_eq_true, decide_eq_true_eq, beq_iff_eq]; exact hno
  | some d =>
    rw [if_pos (show (thirdR (some d)).2 = true from rfl)]
    have e4 : wrap64 ((i : Int) + 4) = ((i + 4 : Nat) : Int) := w64_add i s.size 4 (by omega) (by omega) (by omega)
    have e3 : wrap64 ((i : Int) + 3) = ((i + 3 : Nat) : Int) := w64_add i s.size 3 (by omega) (by omega) (by omega)
    have hS : isSpl ((L s).drop i) = (decide (d = 92) && (if i + 3 < s.size then some (at_ s (i + 3)) else none) == some 10) := by
      rw [← head_drop, ← List.drop_drop]
      rw [hD] at ht ⊢
      exact splS ht
    have hP : isSpl ((L s).drop i) = true → lenP ((L s).drop i) = 4 := by
      intro e
      unfold lenP
      rw [if_pos e]
      rw [hD] at ht ⊢
      rw [oneL_cons, ht]; rfl
    unfold spN
    rw [e4, e3, btA]
    show (if (d.toNat : Int) = 92 then _ else _) = _
    by_cases c : d = 92
    · rw [if_pos ((u8_eq _ 92 92 rfl (by omega)).2 c)]
      by_cases h4 : i + 3 < s.size
      · rw [if_pos (by omega), if_pos (by omega), if_pos (by omega)]
        by_cases c2 : at_ s (i + 3) = 10
        · rw [if_pos ((u8_eq _ 10 10 rfl (by omega)).2 c2)]
          have hT : isSpl ((L s).drop i) = true := by rw [hS, if_pos h4, c2]; simp [c]
          rw [if_pos hT, hP hT]; rfl
        · rw [if_neg (fun e => c2 ((u8_eq _ 10 10 rfl (by omega)).1 e))]
          rw [if_neg (by rw [hS, if_pos h4]; simp [c2])]; rfl
      · rw [if_neg (by omega), if_neg (by rw [hS, if_neg h4]; simp)]; rfl
    · rw [if_neg (fun e => c ((u8_eq _ 92 92 rfl (by omega)).1 e)), if_neg (by rw [hS]; simp [c])]; rfl
theorem splice_f (s : ByteArray) (i : Nat) (h : i < s.size) (hs : s.size ≤ 65536) (k : Nat) :
    regletref01_splice.f (k + 1) s (i : Int) = some ((spN ((L s).drop i) : Nat) : Int) := by
  have e2 : wrap64 ((i : Int) + 2) = ((i + 2 : Nat) : Int) := w64_add i s.size 2 (by omega) (by omega) (by omega)
  have e1 : wrap64 ((i : Int) + 1) = ((i + 1 : Nat) : Int) := w64_add i s.size 1 (by omega) (by omega) (by omega)
  unfold regletref01_splice.f
  rw [e2, e1, btA, btA]
  have hH := head_drop s (i + 1)
  by_cases h2 : i + 1 < s.size
  · rw [if_pos h2] at hH
    rw [if_pos (by omega), if_pos (by omega), if_pos (by omega)]
    by_cases c : at_ s i = 92
    · rw [if_pos ((u8_eq _ 92 92 rfl (by omega)).2 c), if_pos (by omega), if_pos (by omega)]
      by_cases c2 : at_ s (i + 1) = 10
      · rw [show (((at_ s (i + 1)).toNat : Int) == 10) = true from beq_iff_eq.2 ((u8_eq _ 10 10 rfl (by omega)).2 c2)]
        simp only [regletref01_splice.j0]
        rw [if_pos trivial]
        have hD : (L s).drop i = 92 :: 10 :: (L s).drop (i + 1 + 1) := by rw [drop_at s i h, drop_at s (i + 1) h2, c, c2]
        have ht : triU (92 :: 10 :: (L s).drop (i + 1 + 1)) = none := by
          cases (L s).drop (i + 1 + 1) with
          | nil => rfl
          | cons d x => rw [triU_cons, if_neg (by rintro ⟨h, _⟩; exact absurd h (by decide))]
        have hS : isSpl ((L s).drop i) = true := by rw [hD, splN ht]; rfl
        unfold spN
        rw [if_pos hS]
        unfold lenP
        rw [if_pos hS, hD, oneL_cons, ht]; rfl
      · rw [show (((at_ s (i + 1)).toNat : Int) == 10) = false from beq_eq_false_iff_ne.2 (fun e => c2 ((u8_eq _ 10 10 rfl (by omega)).1 e))]
        exact splice_j s i h hs (fun e => c2 (by rw [hH] at e; exact Option.some.inj e.2)) k
    · rw [if_neg (fun e => c ((u8_eq _ 92 92 rfl (by omega)).1 e))]
      exact splice_j s i h hs (fun e => c e.1) k
  · rw [if_neg h2] at hH
    rw [if_neg (by omega)]
    exact splice_j s i h hs (fun e => by rw [hH] at e; exact absurd e.2 (by simp)) k
/-- Whether the last piece is a splice. -/
def lastOf : Bool → List (S55 × Bool) → Bool
  | d, [] => d
  | _, p :: ps => lastOf p.2 ps
theorem Ev.shift {α : Type} {g : Nat → Option α} {r : α} (n : Nat) (h : Ev g r) : Ev (fun k => g (k + n)) r := by
  obtain ⟨K, h⟩ := h
  exact ⟨K, fun k hk => h (k + n) (by omega)⟩
theorem Ev.two {α : Type} {g f : Nat → Option α} {r : α} (h : ∀ k, g (k + 2) = f k) (k : Ev f r) : Ev g r := by
  obtain ⟨K, k⟩ := k
  refine ⟨K + 2, fun m hm => ?_⟩
  obtain ⟨q, rfl⟩ : ∃ q, m = q + 2 := ⟨m - 2, by omega⟩
  rw [h]
  exact k q (by omega)
theorem both_l (s : ByteArray) (hs : s.size ≤ 65536) : ∀ (d i : Nat) (xs : List S55) (ms : List S70) (b : Bool), i ≤ s.size → s.size - i ≤ d → xs.length ≤ i → ms.length ≤ i →
    Ev (fun k => regletref01_Both.l0 k s xs ms b (i : Int)) (xs ++ charsOf (piecesF i ((L s).drop i)), ms ++ splOf (piecesF i ((L s).drop i)), lastOf b (piecesF i ((L s).drop i))) := by
  intro d
  induction d with
  | zero =>
    intro i xs ms b h1 hd hx hm
    refine Ev.done1 fun k => ?_
    simp only [regletref01_Both.l0]
    rw [if_neg (by omega), List.drop_eq_nil_of_le (by rw [L_length]; omega), piecesF_nil]
    simp [charsOf, splOf, lastOf]
  | succ d ih =>
    intro i xs ms b h1 hd hx hm
    by_cases hi : i < s.size
    · have hD := drop_at s i hi
      have hl := lenP_le (at_ s i) ((L s).drop (i + 1))
      have hC := piecesF_cons i (at_ s i) ((L s).drop (i + 1))
      rw [← hD] at hl hC
      rw [List.length_drop, L_length] at hl
      have hO : oneL ((L s).drop i) = oneR (at_ s i) (triU ((L s).drop i)) := by rw [hD]; rfl
      have hF : ∀ k, regletref01_splice.f (k + 1) s (i : Int) = some ((spN ((L s).drop i) : Nat) : Int) := splice_f s i hi hs
      have hT := tri_f s i hi (by omega)
      rw [hC, List.drop_drop]
      have e : ∀ n, n ≤ s.size - i → wrap64 ((i : Int) + (n : Int)) = ((i + n : Nat) : Int) := by intro n hn; unfold wrap64; omega
      cases hS : isSpl ((L s).drop i) with
      | true =>
        have hN : spN ((L s).drop i) = lenP ((L s).drop i) := by unfold spN; rw [if_pos hS]
        generalize lenP ((L s).drop i) = n at *
        have h2 := Ev.shift 1 (ih (i + n) xs (ms ++ [⟨(i : Int), wrap64 ((i : Int) + (n : Int))⟩]) true (by omega) (by omega) (by omega) (by rw [List.length_append, List.length_singleton]; omega))
        refine Ev.two (f := fun k => regletref01_Both.l0 (k + 1) s xs (ms ++ [⟨(i : Int), wrap64 ((i : Int) + (n : Int))⟩]) true ((i + n : Nat) : Int)) (fun k => ?_) ?_
        · show regletref01_Both.l0 ((k + 1) + 1) s xs ms b (i : Int) = _
          rw [regletref01_Both.l0, if_pos (by omega), hF, hN, Option.bind_some, if_pos (by omega), if_pos (by omega), decide_eq_true (show (n : Int) > 0 by omega), e n (by omega)]
        · simpa [charsOf, splOf, lastOf, spanOf] using h2
      | false =>
        have hN : spN ((L s).drop i) = 0 := by unfold spN; rw [hS]; rfl
        have hlp : lenP ((L s).drop i) = (oneL ((L s).drop i)).2 := by unfold lenP; rw [hS]; rfl
        rw [hlp] at hl ⊢
        rw [hO] at hl ⊢
        cases ht : triU ((L s).drop i) with
        | some c =>
          rw [ht] at hl hT
          have h2 := Ev.shift 1 (ih (i + 3) (xs ++ [⟨(c.toNat : Int), (i : Int), 3⟩]) ms false (by have := hl.2; simp only [oneR] at this; omega) (by omega) (by rw [List.length_append, List.length_singleton]; omega) (by omega))
          refine Ev.two (f := fun k => regletref01_Both.l0 (k + 1) s (xs ++ [⟨(c.toNat : Int), (i : Int), 3⟩]) ms false ((i + 3 : Nat) : Int)) (fun k => ?_) ?_
          · show regletref01_Both.l0 ((k + 1) + 1) s xs ms b (i : Int) = _
            rw [regletref01_Both.l0, if_pos (by omega), hF, hN, Option.bind_some, if_neg (by omega), hT, Option.bind_some, if_pos (show (thirdR (some c)).2 = true from rfl), if_pos (by omega)]
            rw [show wrap64 ((i : Int) + 3) = ((i + 3 : Nat) : Int) by unfold wrap64; omega]; rfl
          · simpa [charsOf, splOf, lastOf, oneR] using h2
        | none =>
          rw [ht] at hl hT
          have h2 := Ev.shift 1 (ih (i + 1) (xs ++ [⟨((at_ s i).toNat : Int), (i : Int), 1⟩]) ms false (by omega) (by omega) (by rw [List.length_append, List.length_singleton]; omega) (by omega))
          refine Ev.two (f := fun k => regletref01_Both.l0 (k + 1) s (xs ++ [⟨((at_ s i).toNat : Int), (i : Int), 1⟩]) ms false ((i + 1 : Nat) : Int)) (fun k => ?_) ?_
          · show regletref01_Both.l0 ((k + 1) + 1) s xs ms b (i : Int) = _
            rw [regletref01_Both.l0, if_pos (by omega), hF, hN, Option.bind_some, if_neg (by omega), hT, Option.bind_some, if_neg (show ¬ (thirdR none).2 = true by decide), if_pos (by omega), if_pos (by omega), btA]
            rw [show wrap64 ((i : Int) + 1) = ((i + 1 : Nat) : Int) by unfold wrap64; omega]; rfl
          · simpa [charsOf, splOf, lastOf, oneR] using h2
    · refine Ev.done1 fun k => ?_
      simp only [regletref01_Both.l0]
      rw [if_neg (by omega), List.drop_eq_nil_of_le (by rw [L_length]; omega), piecesF_nil]
      simp [charsOf, splOf, lastOf]
end Go.Proofs.Ytonfmnohmigjpaa.P
