/- The plain law PhysBack: what is spelt has as its logical text what was to be spelt, and nothing but splices more. -/
import Derived.Test.YtonfmnohmigjpaaF12
namespace Go.Proofs.Ytonfmnohmigjpaa.P
open Go.RowKit Go.Proofs.YtonfmnohmigjpaaW.PrintWords Go.Proofs.YtonfmnohmigjpaaW.PrintLast

theorem head_spell (c : UInt8) (r : List UInt8) : ∃ t, spellF (c :: r) = c :: t := by
  unfold spellF; split
  · exact ⟨_, rfl⟩
  · exact ⟨_, rfl⟩
theorem thirdU92 : thirdU 92 = none := by decide
theorem tri_spell (c : UInt8) (r : List UInt8) (h : parts (c :: r) = false) : triU (c :: spellF r) = none := by
  cases r with
  | nil => rfl
  | cons b r =>
    rw [parts_cons] at h
    by_cases hp : parts (b :: r) = true
    · rw [show spellF (b :: r) = b :: 92 :: 10 :: spellF r by rw [spellF, if_pos hp], triU_cons, thirdU92, ite_self]
    · rw [show spellF (b :: r) = b :: spellF r by rw [spellF, if_neg hp]]
      cases r with
      | nil => rfl
      | cons d r =>
        obtain ⟨t, ht⟩ := head_spell d r
        rw [ht, triU_cons]
        by_cases e : c = 63 ∧ b = 63
        · rw [if_pos e]
          rw [if_neg (by rw [e.1]; decide), if_pos e] at h
          exact Option.isNone_iff_eq_none.1 (by rw [Option.isNone_iff_eq_none]; simpa [parts3] using h)
        · rw [if_neg e]
theorem one_none (c : UInt8) (r : List UInt8) (h : triU (c :: r) = none) : oneL (c :: r) = (c, 1) := by rw [oneL_cons, h]; rfl
theorem tri_9210 (c : UInt8) (x : List UInt8) : triU (c :: 92 :: 10 :: x) = none := by
  rw [triU_cons, if_neg (by rintro ⟨_, h⟩; exact absurd h (by decide))]
theorem tri_92 (x : List UInt8) : triU (92 :: 10 :: x) = none := by
  cases x with
  | nil => rfl
  | cons d x => rw [triU_cons, if_neg (by rintro ⟨h, _⟩; exact absurd h (by decide))]
theorem spl_of (c : UInt8) (r : List UInt8) (h : triU (c :: r) = none) : isSpl (c :: r) = (decide (c = 92) && r.head? == some 10) := by
  unfold isSpl; rw [one_none c r h]; rfl
theorem piece_plain (i : Nat) (c : UInt8) (r : List UInt8) (h : triU (c :: r) = none) (hs : isSpl (c :: r) = false) :
    piecesF i (c :: r) = (⟨(c.toNat : Int), i, 1⟩, false) :: piecesF (i + 1) r := by
  have e : lenP (c :: r) = 1 := by unfold lenP; rw [hs, one_none c r h]; rfl
  rw [piecesF_cons, e, hs, one_none c r h]; rfl
theorem piece_spl (i : Nat) (x : List UInt8) : piecesF i (92 :: 10 :: x) = (⟨92, i, 2⟩, true) :: piecesF (i + 2) x := by
  have hs : isSpl (92 :: 10 :: x) = true := by rw [spl_of _ _ (tri_92 x)]; rfl
  have e : lenP (92 :: 10 :: x) = 2 := by unfold lenP; rw [hs, one_none _ _ (tri_92 x)]; rfl
  rw [piecesF_cons, e, hs, one_none _ _ (tri_92 x)]; rfl
theorem pieces_spell (i : Nat) (c : UInt8) (r : List UInt8) :
    piecesF i (spellF (c :: r)) = (⟨(c.toNat : Int), i, 1⟩, false) :: (if parts (c :: r) then (⟨92, ((i + 1 : Nat) : Int), 2⟩, true) :: piecesF (i + 1 + 2) (spellF r) else piecesF (i + 1) (spellF r)) := by
  by_cases hp : parts (c :: r) = true
  · rw [show spellF (c :: r) = c :: 92 :: 10 :: spellF r by rw [spellF, if_pos hp], piece_plain i c _ (tri_9210 _ _) (by rw [spl_of _ _ (tri_9210 _ _)]; simp), piece_spl, if_pos hp]
  · rw [show spellF (c :: r) = c :: spellF r by rw [spellF, if_neg hp], if_neg hp]
    have ht := tri_spell c r (by simpa using hp)
    refine piece_plain i c _ ht ?_
    rw [spl_of _ _ ht]
    rw [Bool.eq_false_iff]
    intro e
    simp only [Bool.and_eq_true, decide_eq_true_eq, beq_iff_eq] at e
    obtain ⟨rfl, e2⟩ := e
    cases r with
    | nil => simp [spellF] at e2
    | cons b r =>
      obtain ⟨t, ht2⟩ := head_spell b r
      rw [ht2] at e2
      simp only [List.head?_cons, Option.some.injEq] at e2
      subst e2
      exact hp (by rw [parts_cons]; rfl)
theorem spell_nil {l : List UInt8} (h : spellF l = []) : l = [] := by
  cases l with
  | nil => rfl
  | cons c r => obtain ⟨t, ht⟩ := head_spell c r; rw [ht] at h; simp at h
theorem back_all (l : List UInt8) (i : Nat) : bytesL (charsOf (piecesF i (spellF l))) = l ∧ (spellF l).length = l.length + 2 * (splOf (piecesF i (spellF l))).length := by
  induction l generalizing i with
  | nil => exact ⟨rfl, rfl⟩
  | cons c r ih =>
    rw [pieces_spell]
    by_cases hp : parts (c :: r) = true
    · rw [if_pos hp]
      have h1 := ih (i + 1 + 2)
      rw [show spellF (c :: r) = c :: 92 :: 10 :: spellF r by rw [spellF, if_pos hp]]
      constructor
      · have := h1.1
        simp only [charsOf, bytesL, List.filter_cons, List.map_cons, Bool.not_false, Bool.not_true, if_true, List.map_map] at *
        simp [this]
      · have := h1.2
        simp only [splOf, List.filter_cons, List.length_cons, if_true] at *
        simp at *
        omega
    · rw [if_neg hp]
      have h1 := ih (i + 1)
      rw [show spellF (c :: r) = c :: spellF r by rw [spellF, if_neg hp]]
      constructor
      · have := h1.1
        simp only [charsOf, bytesL, List.filter_cons, List.map_cons, Bool.not_false, if_true, List.map_map] at *
        simp [this]
      · have := h1.2
        simp only [splOf, List.filter_cons, List.length_cons] at *
        simp at *
        omega
theorem spl_ends (l : List UInt8) (i : Nat) : ∀ p ∈ piecesF i (spellF l), p.2 = true → 0 ≤ p.1.f1 + p.1.f2 ∧ p.1.f1 + p.1.f2 < ((i + (spellF l).length : Nat) : Int) := by
  induction l generalizing i with
  | nil => intro p hp; simp [spellF, piecesF_nil] at hp
  | cons c r ih =>
    rw [pieces_spell]
    intro p hp h2
    by_cases hq : parts (c :: r) = true
    · rw [if_pos hq] at hp
      have hr : r ≠ [] := by rintro rfl; simp [parts] at hq
      have hl : (spellF r).length ≠ 0 := fun e => hr (spell_nil (List.eq_nil_of_length_eq_zero e))
      rw [show spellF (c :: r) = c :: 92 :: 10 :: spellF r by rw [spellF, if_pos hq]]
      simp only [List.length_cons]
      rcases List.mem_cons.1 hp with rfl | hp
      · simp at h2
      · rcases List.mem_cons.1 hp with rfl | hp
        · simp only; omega
        · have := ih _ p hp h2; omega
    · rw [if_neg hq] at hp
      rw [show spellF (c :: r) = c :: spellF r by rw [spellF, if_neg hq]]
      simp only [List.length_cons]
      rcases List.mem_cons.1 hp with rfl | hp
      · simp at h2
      · have := ih _ p hp h2; omega
theorem last_spell (l : List UInt8) : (spellF l).getLast? = l.getLast? := by
  induction l with
  | nil => rfl
  | cons c r ih =>
    cases r with
    | nil => rfl
    | cons b r =>
      have hne : spellF (b :: r) ≠ [] := fun e => absurd (spell_nil e) (by simp)
      obtain ⟨y, ys, hy⟩ := List.exists_cons_of_ne_nil hne
      by_cases hp : parts (c :: b :: r) = true
      · rw [show spellF (c :: b :: r) = c :: 92 :: 10 :: spellF (b :: r) by rw [spellF, if_pos hp], show (c :: b :: r).getLast? = (b :: r).getLast? from List.getLast?_cons_cons, ← ih, hy, List.getLast?_cons_cons, List.getLast?_cons_cons, List.getLast?_cons_cons]
      · rw [show spellF (c :: b :: r) = c :: spellF (b :: r) by rw [spellF, if_neg hp], show (c :: b :: r).getLast? = (b :: r).getLast? from List.getLast?_cons_cons, ← ih, hy, List.getLast?_cons_cons]
theorem getD_last (l : List UInt8) (h : l ≠ []) : l.getLast? = some (l.getD (l.length - 1) 0) := by
  rw [List.getLast?_eq_getElem?, List.getD_eq_getElem?_getD]
  have : l.length - 1 < l.length := by have := List.length_pos_iff.2 h; omega
  simp [this]
theorem check_spell (l : List UInt8) (h1 : (spellF l).length ≤ 65536) (h2 : ¬ (l ≠ [] ∧ l.getD (l.length - 1) 0 ≠ 10)) : checkR (spellF l) = 0 := by
  unfold checkR
  rw [if_neg (by omega)]
  by_cases hn : spellF l = []
  · rw [if_pos hn]
  · rw [if_neg hn]
    have hl : l ≠ [] := by rintro rfl; exact hn rfl
    have e := last_spell l
    rw [getD_last _ hn, getD_last _ hl] at e
    have e2 := Option.some.inj e
    have h3 : l.getD (l.length - 1) 0 = 10 := Classical.byContradiction fun h => h2 ⟨hl, h⟩
    rw [if_neg (by rw [e2, h3]; simp), if_neg]
    rw [List.any_eq_true]
    rintro ⟨p, hp, hb⟩
    unfold badP at hb
    rw [Bool.and_eq_true] at hb
    have h4 := spl_ends l 0 p hp hb.1
    have h5 := beq_iff_eq.1 hb.2
    rw [show wrap64 (p.1.f1 + p.1.f2) = p.1.f1 + p.1.f2 by unfold wrap64; omega] at h5
    omega
theorem alive_true : regletlaw01_alive.f = some true := by
  unfold regletlaw01_alive.f phys_Logical.f
  rw [Option.bind_some]
  decide +kernel
end Go.Proofs.Ytonfmnohmigjpaa.P
namespace Go.Proofs.Ytonfmnohmigjpaa.Pure
open Go.RowKit Go.Proofs.Ytonfmnohmigjpaa.P Go.Proofs.YtonfmnohmigjpaaW.PrintWords Go.Proofs.YtonfmnohmigjpaaW.PrintLast

theorem PhysBack : regletlaw01_PhysBack.Pure := by
  intro s _
  refine ⟨1, ?_⟩
  unfold regletlaw01_PhysBack.f phys_Spell.f
  rw [alive_true, Option.bind_some, Option.bind_some]
  have H : (spellR (L s)).2 = 0 → spellR (L s) = (spellF (L s), 0) ∧ (spellF (L s)).length ≤ 65536 ∧ ¬ (L s ≠ [] ∧ (L s).getD ((L s).length - 1) 0 ≠ 10) := by
    unfold spellR
    split
    · intro h; exact absurd h (by decide)
    · split
      · intro h; exact absurd h (by decide)
      · rename_i h2
        split
        · intro h; exact absurd h (by decide)
        · exact fun _ => ⟨rfl, by omega, h2⟩
  have H2 : (spellR (L s)).2 ≠ 0 → (spellR (L s)).1 = [] := by
    unfold spellR
    split
    · exact fun _ => rfl
    · split
      · exact fun _ => rfl
      · split
        · exact fun _ => rfl
        · intro h; exact absurd rfl h
  by_cases h0 : (spellR (L s)).2 = 0
  · obtain ⟨e, h1, h2⟩ := H h0
    rw [if_pos h0, e]
    have hc := check_spell (L s) h1 h2
    have hb := back_all (L s) 0
    have hL : L (⟨(spellF (L s)).toArray⟩ : ByteArray) = spellF (L s) := by unfold L; simp
    simp only [regletlaw01_PhysBack.j0, Bool.not_true, Bool.false_eq_true, if_false]
    unfold phys_Logical.f phys_Splices.f
    rw [hL]
    unfold logR splR charsR
    rw [if_pos hc, if_pos hc, Option.bind_some, Option.bind_some, if_pos rfl, if_pos rfl, hb.1]
    have e1 : (⟨(L s).toArray⟩ : ByteArray).toList = s.toList := by rw [toList_L, toList_L]; unfold L; simp
    rw [if_pos e1]
    have e2 : ((⟨(spellF (L s)).toArray⟩ : ByteArray).size : Int) = ((spellF (L s)).length : Nat) := by
      rw [← L_length, hL]
    rw [e2, hb.2, L_length]
    have h3 := hb.2
    rw [L_length] at h3
    congr 1
    rw [beq_iff_eq]
    show ((s.size + 2 * (splOf (piecesF 0 (spellF (L s)))).length : Nat) : Int) = wrap64 ((s.size : Int) + wrap64 (2 * ((splOf (piecesF 0 (spellF (L s)))).length : Int)))
    generalize (splOf (piecesF 0 (spellF (L s)))).length = n at *
    unfold wrap64
    omega
  · have e := H2 h0
    rw [if_neg h0, e]
    simp only [regletlaw01_PhysBack.j0, if_true]
    rw [show (⟨([] : List UInt8).toArray⟩ : ByteArray).toList = [] from toList_L _]
    rfl
end Go.Proofs.Ytonfmnohmigjpaa.Pure
