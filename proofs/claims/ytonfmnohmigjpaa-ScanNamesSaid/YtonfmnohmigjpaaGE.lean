-- Written by wip/pr.py (the kit's printer, driven for functions that are proved by hand beside it), and put together by wip/mg.py.
import Derived.Test.YtonfmnohmigjpaaGD
/- A text's tokens, as plain lists. -/
namespace Go.Proofs.Ytonfmnohmigjpaa.P
open Go.RowKit Go.Proofs.YtonfmnohmigjpaaW.PrintWords Go.Proofs.YtonfmnohmigjpaaW.PrintLast

theorem upT_le (e : UInt8) : ∀ (l : List UInt8) (m : Nat), upT e l = some m → 1 ≤ m ∧ m ≤ l.length := by
  intro l
  induction l with
  | nil => intro m h; simp [upT] at h
  | cons c r ih =>
    intro m h
    rw [upT] at h
    split at h
    · simp at h
    · split at h
      · cases h; simp
      · rw [Option.map_eq_some_iff] at h
        obtain ⟨m', h1, rfl⟩ := h
        have := ih m' h1
        simp only [List.length_cons]; omega
theorem hdrF_le (l : List UInt8) : hdrF l ≤ l.length := by
  unfold hdrF
  cases l with
  | nil => simp
  | cons c r =>
    simp only
    split
    · cases h : upT 62 r with
      | none => simp
      | some m => have := upT_le 62 r m h; simp only [List.length_cons]; omega
    · split
      · cases h : upT 34 r with
        | none => simp
        | some m => have := upT_le 34 r m h; simp only [List.length_cons]; omega
      · omega
theorem lineE_le (l : List UInt8) : lineE l ≤ l.length := by
  induction l with
  | nil => simp [lineE]
  | cons c r ih => unfold lineE; split <;> simp <;> omega
theorem closeC_le : ∀ (l : List UInt8) (m : Nat), closeC l = some m → 2 ≤ m ∧ m ≤ l.length := by
  intro l
  induction l with
  | nil => intro m h; simp [closeC] at h
  | cons a r ih =>
    intro m h
    cases r with
    | nil => simp [closeC] at h
    | cons b r =>
      rw [closeC] at h
      split at h
      · cases h; simp
      · rw [Option.map_eq_some_iff] at h
        obtain ⟨m', h1, rfl⟩ := h
        have := ih m' h1
        simp only [List.length_cons] at *; omega
theorem begU_len {p l : List UInt8} (h : begU p l = true) : p.length ≤ l.length := by
  unfold begU at h
  have := congrArg List.length (of_decide_eq_true h)
  rw [List.length_take] at this; omega
theorem comF_le (l : List UInt8) (m : Nat) (h : comF l = some m) : m ≤ l.length := by
  unfold comF at h
  split at h
  · cases h; exact lineE_le l
  · split at h
    · rename_i h2
      rw [Option.map_eq_some_iff] at h
      obtain ⟨m', h1, rfl⟩ := h
      have := closeC_le _ m' h1
      have h3 := begU_len h2
      rw [List.length_drop] at this
      simp only [List.length_cons, List.length_nil] at h3; omega
    · cases h; omega
theorem quoP_le (p l : List UInt8) (r : Nat × Nat) (h : quoP p l = some r) : r.2 ≤ l.length ∧ 0 < r.2 ∧ (r.1 = 4 ∨ r.1 = 3) := by
  unfold quoP at h
  split at h
  · rename_i h2
    have h3 := begU_len h2
    split at h
    · have := litF_le 34 (l.drop p.length)
      rw [List.length_drop] at this
      rename_i h4
      obtain rfl := Option.some.inj h
      refine ⟨?_, ?_, .inl rfl⟩
      · show p.length + litF 34 (l.drop p.length) ≤ l.length; omega
      · show 0 < p.length + litF 34 (l.drop p.length); omega
    · split at h
      · have := litF_le 39 (l.drop p.length)
        rw [List.length_drop] at this
        rename_i h4
        obtain rfl := Option.some.inj h
        refine ⟨?_, ?_, .inr rfl⟩
        · show p.length + litF 39 (l.drop p.length) ≤ l.length; omega
        · have := h4.1; show 0 < p.length + litF 39 (l.drop p.length); omega
      · simp at h
  · simp at h
theorem quoF_cases (l : List UInt8) : quoF l = (0, 0) ∨ ∃ p, quoP p l = some (quoF l) := by
  unfold quoF
  rw [getD_or, getD_or, getD_or, getD_or]
  cases h1 : quoP [117, 56] l with
  | some r => exact .inr ⟨_, h1⟩
  | none =>
  cases h2 : quoP [117] l with
  | some r => exact .inr ⟨_, h2⟩
  | none =>
  cases h3 : quoP [85] l with
  | some r => exact .inr ⟨_, h3⟩
  | none =>
  cases h4 : quoP [76] l with
  | some r => exact .inr ⟨_, h4⟩
  | none =>
  cases h5 : quoP [] l with
  | some r => exact .inr ⟨_, h5⟩
  | none => exact .inl rfl
theorem quoF_le (l : List UInt8) : (quoF l).2 ≤ l.length := by
  rcases quoF_cases l with h | ⟨p, h⟩
  · rw [h]; omega
  · exact (quoP_le p l _ h).1
theorem wordT_le (l : List UInt8) : wordT l ≤ l.length := by
  induction l with
  | nil => simp [wordT]
  | cons c r ih => unfold wordT; split <;> simp <;> omega
theorem wordF_le (l : List UInt8) : wordF l ≤ l.length := by
  cases l with
  | nil => simp [wordF]
  | cons c r => have := wordT_le r; rw [wordF]; split <;> simp <;> omega
theorem numT_le : ∀ (n : Nat) (l : List UInt8), l.length = n → numT l ≤ l.length := by
  intro n
  induction n using Nat.strongRecOn with
  | _ n ih =>
    intro l hl
    match l, hl with
    | [], _ => simp [numT]
    | [a], _ => unfold numT; split <;> simp
    | a :: b :: r, hl =>
      simp only [List.length_cons] at hl
      have h1 := ih r.length (by omega) r rfl
      have h2 := ih (b :: r).length (by simp; omega) (b :: r) rfl
      simp only [List.length_cons] at h2
      unfold numT
      split
      · simp only [List.length_cons]; omega
      · split
        · simp only [List.length_cons]; omega
        · omega
theorem numF_le (l : List UInt8) : numF l ≤ l.length := by
  match l with
  | [] => simp [numF]
  | [a] => rw [numF]; split <;> simp
  | a :: b :: r =>
    have h1 := numT_le _ r rfl
    have h2 := numT_le _ (b :: r) rfl
    simp only [List.length_cons] at h2
    rw [numF]
    split
    · simp only [List.length_cons]; omega
    · split
      · simp only [List.length_cons]; omega
      · omega
theorem pctN_le {l : List UInt8} {n : Nat} (h : pctN l n = true) : n ≤ l.length := by
  unfold pctN at h
  rw [Bool.and_eq_true] at h
  exact of_decide_eq_true h.1
theorem punctF_le (l : List UInt8) : punctF l ≤ l.length := by
  unfold punctF
  repeat' split
  all_goals first
    | (exact pctN_le (by assumption))
    | omega
/-- Where there is a token, it has a byte and no more than there are. -/
theorem first_ok (l : List UInt8) (hl : l ≠ []) (b : Bool) : ((firstI l b).2.2 = 0 ∧ 0 < (firstI l b).2.1 ∧ (firstI l b).2.1 ≤ (l.length : Int)) ∨ ((firstI l b).1 = 0 ∧ (firstI l b).2.1 = 0 ∧ ((firstI l b).2.2 = 20 ∨ (firstI l b).2.2 = 21)) := by
  have h1 := hdrF_le l
  have h2 := quoF_le l
  have h3 := wordF_le l
  have h4 := numF_le l
  have h5 := punctF_le l
  have h6 : comI (comF l) ≤ (l.length : Int) := by
    cases h : comF l with
    | none => simp only [comI]; omega
    | some m => have := comF_le l m h; simp only [comI]; omega
  have h7 : 1 ≤ l.length := List.length_pos_iff.2 hl
  unfold firstI firstG
  repeat' split
  all_goals first
    | (left; refine ⟨rfl, ?_, ?_⟩ <;> first | (simp only; omega) | simp | (rename_i h; exact h.2))
    | (right; exact ⟨rfl, rfl, .inl rfl⟩)
    | (right; exact ⟨rfl, rfl, .inr rfl⟩)

def incl : List UInt8 := [105, 110, 99, 108, 117, 100, 101]
/-- May the next token be a header's name? -/
def namesU : List ByteArray → Bool
  | [a, b] => (a.toList == [35] || a.toList == [37, 58]) && b.toList == incl
  | _ => false
def textOf (l : List UInt8) (n : Int) : ByteArray := ⟨(l.take n.toNat).toArray⟩
def tokOf (i : Nat) (sp : Bool) (l : List UInt8) (p : Int × Int × Int) : S26 × Int := (⟨p.1, textOf l p.2.1, i, (i : Int) + p.2.1, sp⟩, p.2.2)
def lineN (line : List ByteArray) (k : Int) (t : ByteArray) : List ByteArray := if k = 9 then [] else if k ≠ 8 ∧ line.length < 3 then line ++ [t] else line
def toksL : Nat → Nat → Bool → List ByteArray → List UInt8 → List (S26 × Int)
  | 0, _, _, _, _ => []
  | _, _, _, _, [] => []
  | k + 1, i, sp, line, a :: r =>
    if whtU a then toksL k (i + 1) true line r
    else tokOf i sp (a :: r) (firstI (a :: r) (namesU line)) ::
      if (firstI (a :: r) (namesU line)).2.2 = 0 then
        toksL k (i + (firstI (a :: r) (namesU line)).2.1.toNat) false (lineN line (firstI (a :: r) (namesU line)).1 (textOf (a :: r) (firstI (a :: r) (namesU line)).2.1)) ((a :: r).drop (firstI (a :: r) (namesU line)).2.1.toNat)
      else []
theorem toksL_fuel : ∀ (k i : Nat) (sp : Bool) (line : List ByteArray) (l : List UInt8), l.length ≤ k → toksL k i sp line l = toksL l.length i sp line l := by
  intro k
  induction k using Nat.strongRecOn with
  | _ k ih =>
    intro i sp line l hl
    cases l with
    | nil => cases k <;> rfl
    | cons a r =>
      cases k with
      | zero => simp at hl
      | succ k =>
        simp only [List.length_cons] at hl
        have h1 := first_ok (a :: r) (by simp) (namesU line)
        simp only [toksL, List.length_cons]
        split
        · rw [ih k (by omega) _ _ _ _ (by omega)]
        · congr 1
          split
          · rename_i e
            rcases h1 with h1 | h1
            · rw [ih k (by omega) _ _ _ _ (by simp only [List.length_drop, List.length_cons]; omega), ih r.length (by omega) _ _ _ _ (by simp only [List.length_drop, List.length_cons]; omega)]
            · omega
          · rfl
/-- The tokens from a place on; a refusal comes last. -/
def toksF (i : Nat) (sp : Bool) (line : List ByteArray) (l : List UInt8) : List (S26 × Int) := toksL l.length i sp line l
theorem toksF_nil (i : Nat) (sp : Bool) (line : List ByteArray) : toksF i sp line [] = [] := rfl
theorem toksF_white (i : Nat) (sp : Bool) (line : List ByteArray) (a : UInt8) (r : List UInt8) (h : whtU a = true) : toksF i sp line (a :: r) = toksF (i + 1) true line r := by
  unfold toksF
  rw [List.length_cons, toksL, if_pos h]
theorem toksF_tok (i : Nat) (sp : Bool) (line : List ByteArray) (a : UInt8) (r : List UInt8) (h : whtU a = false) (k n : Int) (hf : firstI (a :: r) (namesU line) = (k, n, 0)) :
    toksF i sp line (a :: r) = tokOf i sp (a :: r) (k, n, 0) :: toksF (i + n.toNat) false (lineN line k (textOf (a :: r) n)) ((a :: r).drop n.toNat) := by
  have h1 := first_ok (a :: r) (by simp) (namesU line)
  rw [hf] at h1
  unfold toksF
  rw [List.length_cons, toksL, h, if_neg (by decide), hf, if_pos rfl]
  congr 1
  refine toksL_fuel _ _ _ _ _ ?_
  simp only [List.length_drop, List.length_cons] at *
  omega
theorem toksF_err (i : Nat) (sp : Bool) (line : List ByteArray) (a : UInt8) (r : List UInt8) (h : whtU a = false) (k n e : Int) (he : e ≠ 0) (hf : firstI (a :: r) (namesU line) = (k, n, e)) :
    toksF i sp line (a :: r) = [tokOf i sp (a :: r) (k, n, e)] := by
  unfold toksF
  rw [List.length_cons, toksL, h, if_neg (by decide), hf, if_neg he]
end Go.Proofs.Ytonfmnohmigjpaa.P
/- Where tokens stand: in order, within the text; a refusal is the last. -/
namespace Go.Proofs.Ytonfmnohmigjpaa.P
open Go.RowKit Go.Proofs.YtonfmnohmigjpaaW.PrintWords Go.Proofs.YtonfmnohmigjpaaW.PrintLast

/-- How the tokens go on from a place: nothing more, or a blank, or a token, or a refusal. -/
theorem toks_ind (Q : Nat → Bool → List ByteArray → List UInt8 → List (S26 × Int) → Prop)
    (h0 : ∀ i sp line, Q i sp line [] [])
    (h1 : ∀ i sp line a r, whtU a = true → Q (i + 1) true line r (toksF (i + 1) true line r) → Q i sp line (a :: r) (toksF (i + 1) true line r))
    (h2 : ∀ i sp line a r k (m : Nat), whtU a = false → firstI (a :: r) (namesU line) = (k, (m : Int), 0) → 0 < m → m ≤ (a :: r).length →
      Q (i + m) false (lineN line k (textOf (a :: r) m)) ((a :: r).drop m) (toksF (i + m) false (lineN line k (textOf (a :: r) m)) ((a :: r).drop m)) →
      Q i sp line (a :: r) (tokOf i sp (a :: r) (k, m, 0) :: toksF (i + m) false (lineN line k (textOf (a :: r) m)) ((a :: r).drop m)))
    (h3 : ∀ i sp line a r e, whtU a = false → firstI (a :: r) (namesU line) = (0, 0, e) → (e = 20 ∨ e = 21) → Q i sp line (a :: r) [tokOf i sp (a :: r) (0, 0, e)]) :
    ∀ (n : Nat) (i : Nat) (sp : Bool) (line : List ByteArray) (l : List UInt8), l.length = n → Q i sp line l (toksF i sp line l) := by
  intro n
  induction n using Nat.strongRecOn with
  | _ n ih =>
    intro i sp line l hl
    cases l with
    | nil => exact h0 i sp line
    | cons a r =>
      cases hw : whtU a with
      | true =>
        rw [toksF_white i sp line a r hw]
        exact h1 i sp line a r hw (ih r.length (by simp at hl; omega) _ _ _ _ rfl)
      | false =>
        have hok := first_ok (a :: r) (by simp) (namesU line)
        obtain ⟨⟨k, m, e⟩, hp⟩ : ∃ p, firstI (a :: r) (namesU line) = p := ⟨_, rfl⟩
        rw [hp] at hok
        rcases hok with ⟨he, hm0, hm1⟩ | ⟨hk, hm, he⟩
        · dsimp only at he hm0 hm1
          subst he
          obtain ⟨q, rfl⟩ : ∃ q : Nat, m = (q : Int) := ⟨m.toNat, by omega⟩
          rw [toksF_tok i sp line a r hw k q hp, Int.toNat_natCast]
          exact h2 i sp line a r k q hw hp (by omega) (by omega) (ih _ (by rw [List.length_drop, ← hl]; omega) _ _ _ _ rfl)
        · dsimp only at hk hm he
          subst hk
          subst hm
          rw [toksF_err i sp line a r hw 0 0 e (by omega) hp]
          exact h3 i sp line a r e hw hp he
/-- A token lies within the text. -/
theorem toks_bd (n i : Nat) (sp : Bool) (line : List ByteArray) (l : List UInt8) (hl : l.length = n) :
    ∀ p ∈ toksF i sp line l, p.2 = 0 → ∃ a b : Nat, p.1.f2 = (a : Int) ∧ p.1.f3 = ((b + 1 : Nat) : Int) ∧ i ≤ a ∧ a ≤ b ∧ b < i + l.length := by
  refine toks_ind (fun i sp line l ts => ∀ p ∈ ts, p.2 = 0 → ∃ a b : Nat, p.1.f2 = (a : Int) ∧ p.1.f3 = ((b + 1 : Nat) : Int) ∧ i ≤ a ∧ a ≤ b ∧ b < i + l.length) ?_ ?_ ?_ ?_ n i sp line l hl
  · intro i sp line p hp; simp at hp
  · intro i sp line a r hw ih p hp he
    obtain ⟨x, y, h1, h2, h3, h4, h5⟩ := ih p hp he
    exact ⟨x, y, h1, h2, by omega, h4, by simp only [List.length_cons]; omega⟩
  · intro i sp line a r k m hw hf h0 hm ih p hp he
    rcases List.mem_cons.1 hp with rfl | hp
    · exact ⟨i, i + m - 1, rfl, by unfold tokOf; simp only; omega, Nat.le_refl _, by omega, by omega⟩
    · obtain ⟨x, y, h1, h2, h3, h4, h5⟩ := ih p hp he
      rw [List.length_drop] at h5
      exact ⟨x, y, h1, h2, by omega, h4, by omega⟩
  · intro i sp line a r e hw hf he p hp h
    rw [List.mem_singleton] at hp
    subst hp
    have : e = 0 := h
    omega
theorem toks_len (n i : Nat) (sp : Bool) (line : List ByteArray) (l : List UInt8) (hl : l.length = n) : (toksF i sp line l).length ≤ l.length := by
  refine toks_ind (fun i sp line l ts => ts.length ≤ l.length) ?_ ?_ ?_ ?_ n i sp line l hl
  · intro i sp line; exact Nat.le_refl _
  · intro i sp line a r hw ih; simp only [List.length_cons]; omega
  · intro i sp line a r k m hw hf h0 hm ih
    rw [List.length_drop] at ih
    rw [List.length_cons]; omega
  · intro i sp line a r e hw hf he; simp
/-- A refusal comes last. -/
theorem toks_err (n i : Nat) (sp : Bool) (line : List ByteArray) (l : List UInt8) (hl : l.length = n) :
    ∀ (pre : List (S26 × Int)) (t : S26) (e : Int), pre ++ [(t, e)] <+: toksF i sp line l → e ≠ 0 → pre ++ [(t, e)] = toksF i sp line l := by
  refine toks_ind (fun i sp line l ts => ∀ (pre : List (S26 × Int)) (t : S26) (e : Int), pre ++ [(t, e)] <+: ts → e ≠ 0 → pre ++ [(t, e)] = ts) ?_ ?_ ?_ ?_ n i sp line l hl
  · intro i sp line pre t e h; have := List.prefix_nil.1 h; simp at this
  · intro i sp line a r hw ih; exact ih
  · intro i sp line a r k m hw hf h0 hm ih pre t e h he
    cases pre with
    | nil =>
      rw [List.nil_append, List.cons_prefix_cons] at h
      have := congrArg Prod.snd h.1
      exact absurd this he
    | cons x pre =>
      rw [List.cons_append, List.cons_prefix_cons] at h
      rw [List.cons_append, h.1, ih pre t e h.2 he]
  · intro i sp line a r e0 hw hf he pre t e h _
    cases pre with
    | nil => rw [List.nil_append, List.cons_prefix_cons] at h; rw [List.nil_append, h.1]
    | cons x pre =>
      rw [List.cons_append, List.cons_prefix_cons] at h
      have := List.prefix_nil.1 h.2
      simp at this
end Go.Proofs.Ytonfmnohmigjpaa.P
