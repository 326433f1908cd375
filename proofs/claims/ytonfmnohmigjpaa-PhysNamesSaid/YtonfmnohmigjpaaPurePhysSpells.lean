/- What is left of 'PhysSpells' once the Go code is walked: the program and the document spell every text alike, and let a trigraph stand for the same. -/
import Derived.Test.YtonfmnohmigjpaaF5
import Derived.Test.YtonfmnohmigjpaaPhs
import Derived.Test.YtonfmnohmigjpaaG32
namespace Go.Proofs.Ytonfmnohmigjpaa.P
open Go.RowKit Go.Proofs.YtonfmnohmigjpaaW.PrintWords Go.Proofs.YtonfmnohmigjpaaW.PrintLast Go.Proofs.YtonfmnohmigjpaaW.PrintMore

theorem Ev.steps1 {α : Type} {g f : Nat → Option α} {r : α} (h : ∀ k, g (k + 1) = f k) (k : Ev f r) : Ev g r := Ev.step h k
theorem Ev.done1 {α : Type} {g : Nat → Option α} {r : α} (h : ∀ k, g (k + 1) = some r) : Ev g r := Ev.step h (Ev.now r)
theorem rthird_all : ∀ n : Fin 256, regletref01_Third.f (n.1 : Int) = some (thirdR (thirdU n.1.toUInt8)) := by decide +kernel
theorem rthird_f (c : UInt8) : regletref01_Third.f (c.toNat : Int) = some (thirdR (thirdU c)) := by
  have := rthird_all ⟨c.toNat, c.toNat_lt⟩
  rw [this]
  congr 3
  apply UInt8.toNat_inj.1
  simp
/-- The trigraph at the beginning, and what it stands for. -/
def triU : List UInt8 → Option UInt8
  | a :: b :: c :: _ => if a = 63 ∧ b = 63 then thirdU c else none
  | _ => none
theorem triU_cons (a b c : UInt8) (r : List UInt8) : triU (a :: b :: c :: r) = if a = 63 ∧ b = 63 then thirdU c else none := rfl
theorem tri_f (s : ByteArray) (i : Nat) (h : i < s.size) (hs : s.size ≤ 140737488351232) : regletref01_tri.f s (i : Int) = some (thirdR (triU ((L s).drop i))) := by
  have e1 : wrap64 ((i : Int) + 1) = ((i + 1 : Nat) : Int) := w64_add i s.size 1 (by omega) hs (by omega)
  have e2 : wrap64 ((i : Int) + 2) = ((i + 2 : Nat) : Int) := w64_add i s.size 2 (by omega) hs (by omega)
  have e3 : wrap64 ((i : Int) + 3) = ((i + 3 : Nat) : Int) := w64_add i s.size 3 (by omega) hs (by omega)
  unfold regletref01_tri.f
  rw [e1, e2, e3, btA, btA, btA]
  by_cases h3 : i + 3 ≤ s.size
  · rw [if_neg (by omega), if_pos (by omega), if_pos (by omega), drop_at s i h, drop_at s (i + 1) (by omega), drop_at s (i + 1 + 1) (by omega), triU_cons]
    by_cases c2 : at_ s i = 63
    · rw [if_pos ((u8_eq _ 63 63 rfl (by omega)).2 c2), if_pos (by omega), if_pos (by omega)]
      by_cases c3 : at_ s (i + 1) = 63
      · rw [if_pos ((u8_eq _ 63 63 rfl (by omega)).2 c3), if_pos (by omega), if_pos (by omega), rthird_f, if_pos (show at_ s i = 63 ∧ at_ s (i + 1) = 63 from ⟨c2, c3⟩)]
        rfl
      · rw [if_neg (fun e => c3 ((u8_eq _ 63 63 rfl (by omega)).1 e)), if_neg (show ¬ (at_ s i = 63 ∧ at_ s (i + 1) = 63) from fun e => c3 e.2)]
        rfl
    · rw [if_neg (fun e => c2 ((u8_eq _ 63 63 rfl (by omega)).1 e)), if_neg (show ¬ (at_ s i = 63 ∧ at_ s (i + 1) = 63) from fun e => c2 e.1)]
      rfl
  · rw [if_pos (by omega), drop_at s i h]
    by_cases h2 : i + 1 < s.size
    · rw [drop_at s (i + 1) h2, List.drop_eq_nil_of_le (by rw [L_length]; omega)]
      rfl
    · rw [List.drop_eq_nil_of_le (by rw [L_length]; omega)]
      rfl
theorem parts_tri (a : UInt8) (r : List UInt8) (h : (triU (a :: r)).isSome = true) : parts (a :: r) = true := by
  cases r with
  | nil => simp [triU] at h
  | cons b r =>
    cases r with
    | nil => simp [triU] at h
    | cons c r =>
      rw [triU_cons] at h
      split at h
      · rename_i e
        rw [parts_cons, if_neg (by rw [e.1]; decide), if_pos e]
        exact h
      · simp at h
def partsN (a : UInt8) : List UInt8 → Bool
  | b :: _ => decide (a = 92) && b == 10
  | [] => false
theorem parts_not (a : UInt8) (r : List UInt8) (h : triU (a :: r) = none) : parts (a :: r) = partsN a r := by
  cases r with
  | nil => rfl
  | cons b r =>
    rw [parts_cons, show partsN a (b :: r) = (decide (a = 92) && b == 10) from rfl]
    by_cases c : a = 92
    · rw [if_pos c]; simp [c]
    · rw [if_neg c]
      simp only [c, decide_false, Bool.false_and]
      split
      · rename_i e
        cases r with
        | nil => rfl
        | cons d r =>
          rw [triU_cons, if_pos e] at h
          simp [parts3, h]
      · rfl
def nums8 (l : List UInt8) : List Int := l.map fun c => (c.toNat : Int)
theorem nums8_len (l : List UInt8) : (nums8 l).length = l.length := List.length_map _
theorem strOf8 (l : List UInt8) : strOfNums (nums8 l) = ⟨l.toArray⟩ := by
  unfold strOfNums nums8
  rw [List.map_map]
  congr 2
  conv => rhs; rw [← List.map_id l]
  exact List.map_congr_left fun c _ => by simp
theorem nums8_snoc (l : List UInt8) (c : UInt8) : nums8 l ++ [(c.toNat : Int)] = nums8 (l ++ [c]) := by simp [nums8]
theorem nums8_two (l : List UInt8) : nums8 l ++ [92, 10] = nums8 (l ++ [92, 10]) := by simp [nums8]

def spellOut (l : List UInt8) : ByteArray × Int := if l.length > 65536 then (⟨#[]⟩, 3) else (⟨l.toArray⟩, 0)
/-- The reference's loop. -/
theorem rspell_l (s : ByteArray) (hs : s.size ≤ 65536) : ∀ (d i : Nat) (xs : List UInt8), i ≤ s.size → s.size - i = d → xs.length ≤ 3 * i →
    Ev (fun k => regletref01_Spell.l0 k s (nums8 xs) (i : Int)) (spellOut (xs ++ spellF ((L s).drop i))) := by
  intro d
  induction d with
  | zero =>
    intro i xs h1 hd hx
    refine Ev.done1 fun k => ?_
    simp only [regletref01_Spell.l0]
    rw [if_neg (by omega), List.drop_eq_nil_of_le (by rw [L_length]; omega), nums8_len, strOf8]
    simp only [spellF, List.append_nil]
    unfold spellOut
    by_cases h : xs.length > 65536
    · rw [if_pos (by omega), if_pos h]
    · rw [if_neg (by omega), if_neg h]
  | succ d ih =>
    intro i xs h1 hd hx
    have hi : i < s.size := by omega
    have e1 : wrap64 ((i : Int) + 1) = ((i + 1 : Nat) : Int) := w64_add i s.size 1 (by omega) (by omega) (by omega)
    have hD := drop_at s i hi
    have hT := tri_f s i hi (by omega)
    -- with a splice, and without
    have hy : parts ((L s).drop i) = true → Ev (fun k => regletref01_Spell.l0 k s (nums8 (xs ++ [at_ s i] ++ [92, 10])) ((i + 1 : Nat) : Int)) (spellOut (xs ++ spellF ((L s).drop i))) := by
      intro hp
      have := ih (i + 1) (xs ++ [at_ s i] ++ [92, 10]) (by omega) (by omega) (by simp; omega)
      have e : xs ++ [at_ s i] ++ [92, 10] ++ spellF ((L s).drop (i + 1)) = xs ++ spellF ((L s).drop i) := by
        rw [hD] at hp ⊢
        rw [spellF, if_pos hp]; simp
      rwa [e] at this
    have hn : parts ((L s).drop i) = false → Ev (fun k => regletref01_Spell.l0 k s (nums8 (xs ++ [at_ s i])) ((i + 1 : Nat) : Int)) (spellOut (xs ++ spellF ((L s).drop i))) := by
      intro hp
      have := ih (i + 1) (xs ++ [at_ s i]) (by omega) (by omega) (by simp; omega)
      have e : xs ++ [at_ s i] ++ spellF ((L s).drop (i + 1)) = xs ++ spellF ((L s).drop i) := by
        rw [hD] at hp ⊢
        rw [spellF, if_neg (by rw [hp]; decide)]; simp
      rwa [e] at this
    generalize spellOut (xs ++ spellF ((L s).drop i)) = res at hy hn ⊢
    cases ht : triU ((L s).drop i) with
    | some c =>
      have hp : parts ((L s).drop i) = true := by rw [hD] at ht ⊢; exact parts_tri _ _ (by rw [ht]; rfl)
      refine Ev.steps1 (fun k => ?_) (hy hp)
      simp only [regletref01_Spell.l0]
      rw [if_pos (by omega), if_pos (by omega), if_pos (by rw [nums8_len]; omega)]
      rw [Option.bind_some, hT, ht, Option.bind_some, if_pos (show (thirdR (some c)).2 = true from rfl), Option.bind_some]
      rw [if_pos (by rw [btA, nums8_snoc, nums8_len]; simp; omega), e1, btA, nums8_snoc, nums8_two]
    | none =>
      have hpn : parts ((L s).drop i) = partsN (at_ s i) ((L s).drop (i + 1)) := by rw [hD] at ht ⊢; exact parts_not _ _ ht
      by_cases h2 : i + 1 < s.size
      · rw [drop_at s (i + 1) h2] at hpn
        replace hpn : parts ((L s).drop i) = (decide (at_ s i = 92) && at_ s (i + 1) == 10) := hpn
        by_cases c1 : at_ s i = 92
        · by_cases c2 : at_ s (i + 1) = 10
          · refine Ev.steps1 (fun k => ?_) (hy (by rw [hpn, c1, c2]; rfl))
            simp only [regletref01_Spell.l0]
            rw [if_pos (by omega), if_pos (by omega), if_pos (by rw [nums8_len]; omega)]
            rw [Option.bind_some, hT, ht, Option.bind_some, if_neg (show ¬ (thirdR none).2 = true by decide), e1, if_pos (by omega), btA, btA, if_pos ((u8_eq _ 92 92 rfl (by omega)).2 c1), if_pos (by omega), if_pos ((u8_eq _ 10 10 rfl (by omega)).2 c2), Option.bind_some]
            rw [if_pos (by rw [nums8_snoc, nums8_len]; simp; omega), nums8_snoc, nums8_two]
          · refine Ev.steps1 (fun k => ?_) (hn (by rw [hpn]; simp [c2]))
            simp only [regletref01_Spell.l0]
            rw [if_pos (by omega), if_pos (by omega), if_pos (by rw [nums8_len]; omega)]
            rw [Option.bind_some, hT, ht, Option.bind_some, if_neg (show ¬ (thirdR none).2 = true by decide), e1, if_pos (by omega), btA, btA, if_pos ((u8_eq _ 92 92 rfl (by omega)).2 c1), if_pos (by omega), if_neg (fun e => c2 ((u8_eq _ 10 10 rfl (by omega)).1 e)), nums8_snoc]
        · refine Ev.steps1 (fun k => ?_) (hn (by rw [hpn]; simp [c1]))
          simp only [regletref01_Spell.l0]
          rw [if_pos (by omega), if_pos (by omega), if_pos (by rw [nums8_len]; omega)]
          rw [Option.bind_some, hT, ht, Option.bind_some, if_neg (show ¬ (thirdR none).2 = true by decide), e1, if_pos (by omega), btA, if_neg (fun e => c1 ((u8_eq _ 92 92 rfl (by omega)).1 e)), nums8_snoc]
      · rw [List.drop_eq_nil_of_le (show (L s).length ≤ i + 1 by rw [L_length]; omega)] at hpn
        refine Ev.steps1 (fun k => ?_) (hn hpn)
        simp only [regletref01_Spell.l0]
        rw [if_pos (by omega), if_pos (by omega), if_pos (by rw [nums8_len]; omega)]
        rw [Option.bind_some, hT, ht, Option.bind_some, if_neg (show ¬ (thirdR none).2 = true by decide), e1, if_neg (by omega), btA, nums8_snoc]

theorem rspell_f (s : ByteArray) : Ev (fun k => regletref01_Spell.f k s) (⟨(spellR (L s)).1.toArray⟩, (spellR (L s)).2) := by
  by_cases h1 : s.size > 65536
  · refine Ev.congr (fun k => ?_) (Ev.now _)
    unfold regletref01_Spell.f
    rw [if_pos (by omega)]
    unfold spellR
    rw [if_pos (by rw [L_length]; exact h1)]
  · have hl := rspell_l s (by omega) s.size 0 [] (by omega) (by omega) (by simp)
    simp only [List.nil_append, List.drop_zero] at hl
    have hA : ∀ z : Bool, z = decide (s.size ≠ 0 ∧ at_ s (s.size - 1) ≠ 10) → Ev (fun k => regletref01_Spell.j0 k s z) (⟨(spellR (L s)).1.toArray⟩, (spellR (L s)).2) := by
      intro z hz
      have e0 : ¬ (L s).length > 65536 := by rw [L_length]; exact h1
      have e1 : (L s ≠ [] ∧ (L s).getD ((L s).length - 1) 0 ≠ 10) ↔ (s.size ≠ 0 ∧ at_ s (s.size - 1) ≠ 10) := by
        rw [L_length]
        have : L s ≠ [] ↔ s.size ≠ 0 := by rw [← L_length, Ne, ← List.length_eq_zero_iff]
        rw [this]; rfl
      cases z with
      | true =>
        have hz' := of_decide_eq_true hz.symm
        refine Ev.done1 fun k => ?_
        simp only [regletref01_Spell.j0, if_true]
        unfold spellR
        rw [if_neg e0, if_pos (e1.2 hz')]
      | false =>
        have hz' := of_decide_eq_false hz.symm
        refine Ev.steps1 (f := fun k => regletref01_Spell.l0 k s (nums8 []) ((0 : Nat) : Int)) (fun k => ?_) ?_
        · simp only [regletref01_Spell.j0]
          rw [if_neg (by decide)]; rfl
        · unfold spellR
          rw [if_neg e0, if_neg (fun e => hz' (e1.1 e))]
          unfold spellOut at hl
          by_cases h : (spellF (L s)).length > 65536
          · rw [if_pos h] at hl ⊢; exact hl
          · rw [if_neg h] at hl ⊢; exact hl
    by_cases h2 : s.size = 0
    · refine Ev.congr (fun k => ?_) (hA false (by rw [decide_eq_false]; exact fun e => e.1 h2))
      unfold regletref01_Spell.f
      rw [if_neg (by omega), if_neg (by omega)]
    · have e1 : wrap64 ((s.size : Int) - 1) = ((s.size - 1 : Nat) : Int) := by unfold wrap64; omega
      refine Ev.congr (fun k => ?_) (hA _ rfl)
      unfold regletref01_Spell.f
      rw [if_neg (by omega), if_pos (by omega), e1, if_pos (by omega), if_pos (by omega), btA]
      congr 1
      rw [Bool.eq_iff_iff, bne_iff_ne, decide_eq_true_iff]
      constructor
      · exact fun e => ⟨h2, fun e2 => e ((u8_eq _ 10 10 rfl (by omega)).2 e2)⟩
      · exact fun e e2 => e.2 ((u8_eq _ 10 10 rfl (by omega)).1 e2)
end Go.Proofs.Ytonfmnohmigjpaa.P
namespace Go.Proofs.Ytonfmnohmigjpaa.Pure
open Go.RowKit Go.Proofs.Ytonfmnohmigjpaa.P Go.Proofs.YtonfmnohmigjpaaW.PrintWords Go.Proofs.YtonfmnohmigjpaaW.PrintLast
theorem PhysSpells : regletlaw01_PhysSpells.Pure := by
  intro s c _ hc
  have hc1 : 0 ≤ c ∧ c < 256 := by
    have h : IntKind.u8.min ≤ c ∧ c ≤ IntKind.u8.max := by simpa [Lit.wf] using hc
    have e1 : IntKind.u8.min = 0 := by decide
    have e2 : IntKind.u8.max = 255 := by decide
    rw [e1, e2] at h
    omega
  obtain ⟨n, rfl⟩ : ∃ n : Nat, c = (n : Int) := ⟨c.toNat, by omega⟩
  have h1 := third_all ⟨n, by omega⟩
  have h2 := rthird_all ⟨n, by omega⟩
  refine Ev.rounds ?_
  unfold regletlaw01_PhysSpells.f phys_Spell.f
  simp only [Option.bind_some]
  refine Ev.bind (rspell_f s) ?_
  simp only at h1 h2
  simp only [h1, h2, Option.bind_some, if_true]
  refine Ev.congr (fun k => ?_) (Ev.now true)
  simp
end Go.Proofs.Ytonfmnohmigjpaa.Pure
