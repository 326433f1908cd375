-- Written by wip/pr.py (the kit's printer, driven for functions that are proved by hand beside it), and put together by wip/mg.py.
import Derived.Test.YtonfmnohmigjpaaGC
import Derived.Test.YtonfmnohmigjpaaSc1
/- How a text's characters lie in it: between them stand splices alone. -/
namespace Go.Proofs.Ytonfmnohmigjpaa.P
open Go.RowKit Go.Proofs.YtonfmnohmigjpaaW.PrintWords Go.Proofs.YtonfmnohmigjpaaW.PrintLast

/-- A byte of white space or of a splice. -/
def okB (c : UInt8) : Prop := whtU c = true ∨ c = 92 ∨ c = 10 ∨ c = 63 ∨ c = 47
def byteC (c : S55) : UInt8 := UInt8.ofNat c.f0.toNat
/-- The characters lie in the text from p on; between them, ahead and behind stand white space and splices alone. -/
def Lay (s : ByteArray) : Nat → List S55 → Prop
  | p, [] => p ≤ s.size ∧ ∀ q, p ≤ q → q < s.size → okB (at_ s q)
  | p, c :: r => ∃ a m : Nat, c.f1 = (a : Int) ∧ c.f2 = (m : Int) ∧ p ≤ a ∧ (∀ q, p ≤ q → q < a → okB (at_ s q)) ∧ 1 ≤ m ∧ a + m ≤ s.size ∧ (m = 1 → byteC c = at_ s a) ∧ (whtU (byteC c) = true → m = 1) ∧ Lay s (a + m) r
theorem lay_back (s : ByteArray) (p p' : Nat) (cs : List S55) (h : Lay s p' cs) (hp : p ≤ p') (hq : ∀ q, p ≤ q → q < p' → okB (at_ s q)) : Lay s p cs := by
  cases cs with
  | nil =>
    refine ⟨Nat.le_trans hp h.1, fun q h1 h2 => ?_⟩
    rcases Nat.lt_or_ge q p' with h3 | h3
    · exact hq q h1 h3
    · exact h.2 q h3 h2
  | cons c r =>
    obtain ⟨a, m, e1, e2, h1, h2, h3⟩ := h
    refine ⟨a, m, e1, e2, by omega, fun q g1 g2 => ?_, h3⟩
    rcases Nat.lt_or_ge q p' with h4 | h4
    · exact hq q g1 h4
    · exact h2 q h4 g2
/-- A white character may be skipped. -/
theorem lay_white (s : ByteArray) (p : Nat) (c : S55) (r : List S55) (h : Lay s p (c :: r)) (hw : whtU (byteC c) = true) : Lay s p r := by
  obtain ⟨a, m, e1, e2, h1, h2, h3, h4, h5, h6, h7⟩ := h
  have hm := h6 hw
  refine lay_back s p (a + m) r h7 (by omega) (fun q g1 g2 => ?_)
  rcases Nat.lt_or_ge q a with h8 | h8
  · exact h2 q g1 h8
  · have : q = a := by omega
    rw [this, ← h5 hm]
    exact .inl hw
theorem tri_two' {c : UInt8} {l : List UInt8} (h : triU l = some c) : 3 ≤ l.length ∧ l.take 2 = [63, 63] ∧ thirdU (l.getD 2 0) = some c := by
  match l, h with
  | a :: b :: d :: r, h =>
    rw [triU_cons] at h
    by_cases e : a = 63 ∧ b = 63
    · rw [if_pos e] at h; exact ⟨by simp, by rw [e.1, e.2]; rfl, h⟩
    · rw [if_neg e] at h; simp at h
  | [_, _], h => simp [triU] at h
  | [_], h => simp [triU] at h
  | [], h => simp [triU] at h
theorem third_white : ∀ n : Fin 256, (match thirdU n.1.toUInt8 with | some c => whtU c | none => false) = false := by decide +kernel
theorem third_92 : ∀ n : Fin 256, thirdU n.1.toUInt8 = some 92 → n.1.toUInt8 = 47 := by decide +kernel
theorem at_drop' (s : ByteArray) (i j : Nat) : ((L s).drop i).getD j 0 = at_ s (i + j) := by
  unfold at_
  simp [List.getD_eq_getElem?_getD]
/-- A splice's bytes. -/
theorem spl_bytes (s : ByteArray) (i : Nat) (hi : i < s.size) (hS : isSpl ((L s).drop i) = true) (q : Nat) (g1 : i ≤ q) (g2 : q < i + lenP ((L s).drop i)) : okB (at_ s q) := by
  have hD := drop_at s i hi
  cases ht : triU ((L s).drop i) with
  | none =>
    have h1 : lenP ((L s).drop i) = 2 := by
      have := lenOne (a := at_ s i) (r := (L s).drop (i + 1)) (by rw [← hD]; exact ht)
      rw [← hD, if_pos hS] at this; exact this
    have h2 := splN (c := at_ s i) (r := (L s).drop (i + 1)) (by rw [← hD]; exact ht)
    rw [← hD, hS] at h2
    have h3 := h2.symm
    rw [Bool.and_eq_true, decide_eq_true_eq, beq_iff_eq, head_drop] at h3
    rcases (show q = i ∨ q = i + 1 by omega) with rfl | rfl
    · rw [h3.1]; exact .inr (.inl rfl)
    · by_cases h : i + 1 < s.size
      · rw [if_pos h] at h3
        rw [Option.some.inj h3.2]; exact .inr (.inr (.inl rfl))
      · rw [if_neg h] at h3; simp at h3
  | some c =>
    have h1 : lenP ((L s).drop i) = 4 := by
      have := lenThree (a := at_ s i) (d := c) (r := (L s).drop (i + 1)) (by rw [← hD]; exact ht)
      rw [← hD, if_pos hS] at this; exact this
    have h2 := splS (c := at_ s i) (d := c) (r := (L s).drop (i + 1)) (by rw [← hD]; exact ht)
    rw [← hD, hS] at h2
    have h3 := h2.symm
    rw [Bool.and_eq_true, decide_eq_true_eq, beq_iff_eq, List.drop_drop, head_drop] at h3
    obtain ⟨k1, k2, k3⟩ := tri_two' ht
    rw [at_drop', h3.1] at k3
    have k4 := third_92 ⟨_, (at_ s (i + 2)).toNat_lt⟩
    rw [u8_fin] at k4
    have k0 : ∀ j, j < 2 → at_ s (i + j) = 63 := by
      intro j hj
      have : ((L s).drop i).getD j 0 = (((L s).drop i).take 2).getD j 0 := by
        rw [List.getD_eq_getElem?_getD, List.getD_eq_getElem?_getD, List.getElem?_take, if_pos hj]
      rw [← at_drop', this, k2]
      rcases (show j = 0 ∨ j = 1 by omega) with rfl | rfl <;> rfl
    rcases (show q = i ∨ q = i + 1 ∨ q = i + 2 ∨ q = i + 3 by omega) with rfl | rfl | rfl | rfl
    · have := k0 0 (by omega); rw [Nat.add_zero] at this; rw [this]; exact .inr (.inr (.inr (.inl rfl)))
    · rw [k0 1 (by omega)]; exact .inr (.inr (.inr (.inl rfl)))
    · rw [k4 k3]; exact .inr (.inr (.inr (.inr rfl)))
    · by_cases h : i + 3 < s.size
      · rw [if_pos h] at h3
        rw [Option.some.inj h3.2]; exact .inr (.inr (.inl rfl))
      · rw [if_neg h] at h3; simp at h3
theorem lay_pieces (s : ByteArray) : ∀ (d i : Nat), s.size - i ≤ d → i ≤ s.size → Lay s i (charsOf (piecesF i ((L s).drop i))) := by
  intro d
  have fin : ∀ i, ¬ i < s.size → i ≤ s.size → Lay s i (charsOf (piecesF i ((L s).drop i))) := by
    intro i h1 h2
    rw [nil_drop s i h1, piecesF_nil]
    exact ⟨h2, fun q g1 g2 => by omega⟩
  induction d with
  | zero => exact fun i h1 h2 => fin i (by omega) h2
  | succ d ih =>
    intro i hd h1
    by_cases hi : i < s.size
    · have hD := drop_at s i hi
      have hle := lenP_le (at_ s i) ((L s).drop (i + 1))
      have hC := piecesF_cons i (at_ s i) ((L s).drop (i + 1))
      rw [← hD] at hle hC
      rw [List.length_drop, L_length] at hle
      rw [List.drop_drop] at hC
      have ih' := ih (i + lenP ((L s).drop i)) (by omega) (by omega)
      have hO : oneL ((L s).drop i) = oneR (at_ s i) (triU ((L s).drop i)) := by rw [hD]; rfl
      rw [hC]
      cases hS : isSpl ((L s).drop i) with
      | true =>
        have e : charsOf ((⟨((oneL ((L s).drop i)).1.toNat : Int), (i : Int), (lenP ((L s).drop i) : Int)⟩, true) :: piecesF (i + lenP ((L s).drop i)) ((L s).drop (i + lenP ((L s).drop i)))) = charsOf (piecesF (i + lenP ((L s).drop i)) ((L s).drop (i + lenP ((L s).drop i)))) := by simp [charsOf]
        rw [e]
        refine lay_back s i _ _ ih' (by omega) (fun q g1 g2 => ?_)
        exact spl_bytes s i hi hS q g1 g2
      | false =>
        have e : charsOf ((⟨((oneL ((L s).drop i)).1.toNat : Int), (i : Int), (lenP ((L s).drop i) : Int)⟩, false) :: piecesF (i + lenP ((L s).drop i)) ((L s).drop (i + lenP ((L s).drop i)))) = ⟨((oneL ((L s).drop i)).1.toNat : Int), (i : Int), (lenP ((L s).drop i) : Int)⟩ :: charsOf (piecesF (i + lenP ((L s).drop i)) ((L s).drop (i + lenP ((L s).drop i)))) := by simp [charsOf]
        rw [e]
        have hlp : lenP ((L s).drop i) = (oneL ((L s).drop i)).2 := by unfold lenP; rw [hS]; rfl
        have hb : byteC ⟨((oneL ((L s).drop i)).1.toNat : Int), (i : Int), (lenP ((L s).drop i) : Int)⟩ = (oneL ((L s).drop i)).1 := by unfold byteC; simp
        refine ⟨i, lenP ((L s).drop i), rfl, rfl, Nat.le_refl _, fun q g1 g2 => by omega, hle.1, by omega, ?_, ?_, ih'⟩
        · intro hm
          rw [hb]
          rw [hlp, hO] at hm
          rw [hO]
          cases ht : triU ((L s).drop i) with
          | none => rfl
          | some c => rw [ht] at hm; simp [oneR] at hm
        · intro hw
          rw [hb, hO] at hw
          rw [hlp, hO]
          cases ht : triU ((L s).drop i) with
          | none => rfl
          | some c =>
            rw [ht] at hw
            obtain ⟨_, _, h3⟩ := tri_two' ht
            have := third_white ⟨_, (((L s).drop i).getD 2 0).toNat_lt⟩
            rw [u8_fin, h3] at this
            simp only [oneR] at hw
            have h8 : whtU c = false := this
            rw [hw] at h8
            cases h8
    · exact fin i hi h1
end Go.Proofs.Ytonfmnohmigjpaa.P
/- A token's characters in the text: where they begin and end. -/
namespace Go.Proofs.Ytonfmnohmigjpaa.P
open Go.RowKit Go.Proofs.YtonfmnohmigjpaaW.PrintWords Go.Proofs.YtonfmnohmigjpaaW.PrintLast

theorem lay_take (s : ByteArray) (cs : List S55) : ∀ (m c p : Nat), c + (m + 1) ≤ cs.length → Lay s p (cs.drop c) →
    ∃ a e : Nat, (rd_T55 cs (c : Int)).f1 = (a : Int) ∧ (rd_T55 cs ((c + m : Nat) : Int)).f1 + (rd_T55 cs ((c + m : Nat) : Int)).f2 = (e : Int) ∧ p ≤ a ∧ (∀ q, p ≤ q → q < a → okB (at_ s q)) ∧ a + (m + 1) ≤ e ∧ e ≤ s.size ∧
      Lay s e (cs.drop (c + (m + 1))) ∧ (e = a + (m + 1) → ∀ k, k < m + 1 → at_ s (a + k) = byteC (rd_T55 cs ((c + k : Nat) : Int))) := by
  intro m
  induction m with
  | zero =>
    intro c p hc h
    rw [drop_rd55 cs c (by omega)] at h
    obtain ⟨a, m, e1, e2, h1, h2, h3, h4, h5, h6, h7⟩ := h
    refine ⟨a, a + m, e1, by rw [Nat.add_zero, e1, e2]; rfl, h1, h2, by omega, h4, h7, fun he k hk => ?_⟩
    obtain rfl : k = 0 := by omega
    rw [Nat.add_zero, Nat.add_zero]
    exact (h5 (by omega)).symm
  | succ m ih =>
    intro c p hc h
    rw [drop_rd55 cs c (by omega)] at h
    obtain ⟨a, w, e1, e2, h1, h2, h3, h4, h5, h6, h7⟩ := h
    obtain ⟨a', e, g1, g2, g3, g4, g5, g6, g7, g8⟩ := ih (c + 1) (a + w) (by omega) h7
    rw [show c + 1 + m = c + (m + 1) by omega] at g2
    rw [show c + 1 + (m + 1) = c + (m + 1 + 1) by omega] at g7
    refine ⟨a, e, e1, g2, h1, h2, by omega, g6, g7, fun he k hk => ?_⟩
    cases k with
    | zero => rw [Nat.add_zero, Nat.add_zero]; exact (h5 (by omega)).symm
    | succ k =>
      have := g8 (by omega) k (by omega)
      rw [show a + (k + 1) = a' + k by omega, this, show c + 1 + k = c + (k + 1) by omega]
theorem whites (s : ByteArray) (cs : List S55) (p c : Nat) (h : Lay s p (cs.drop c)) (hc : c < cs.length) (hw : whtU (byteC (rd_T55 cs (c : Int))) = true) : Lay s p (cs.drop (c + 1)) := by
  rw [drop_rd55 cs c hc] at h
  exact lay_white s p _ _ h hw
theorem bytesL_drop (cs : List S55) (c : Nat) (h : c < cs.length) : (bytesL cs).drop c = byteC (rd_T55 cs (c : Int)) :: (bytesL cs).drop (c + 1) := by
  unfold bytesL
  rw [← List.map_drop, drop_rd55 cs c h, List.map_cons, List.map_drop]
  rfl
end Go.Proofs.Ytonfmnohmigjpaa.P
