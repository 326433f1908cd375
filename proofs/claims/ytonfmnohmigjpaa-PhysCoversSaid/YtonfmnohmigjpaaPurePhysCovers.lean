/- The plain law PhysCovers: each byte of a text is a character's or a splice's, in order. -/
import Derived.Test.YtonfmnohmigjpaaF10
import Derived.Test.YtonfmnohmigjpaaPurePhysBack
import Derived.Test.YtonfmnohmigjpaaRef1
namespace Go.Proofs.Ytonfmnohmigjpaa.P
open Go.RowKit Go.Proofs.YtonfmnohmigjpaaW.PrintWords Go.Proofs.YtonfmnohmigjpaaW.PrintLast

theorem drop_rd70 (l : List S70) (i : Nat) (h : i < l.length) : l.drop i = rd_T70 l (i : Int) :: l.drop (i + 1) := by
  rw [List.drop_eq_getElem_cons h]
  congr 1
  simp [rd_T70, List.getD_eq_getElem?_getD, h]
theorem pieces_ge (n : Nat) : ∀ (l : List UInt8) (i : Nat), l.length = n → ∀ p ∈ piecesF i l, (i : Int) ≤ p.1.f1 ∧ p.1.f1 + p.1.f2 ≤ ((i + l.length : Nat) : Int) := by
  induction n using Nat.strongRecOn with
  | _ n ih =>
    intro l i hl p hp
    cases l with
    | nil => simp [piecesF_nil] at hp
    | cons a r =>
      have h1 := lenP_le a r
      rw [piecesF_cons] at hp
      rcases List.mem_cons.1 hp with rfl | hp
      · simp only; omega
      · have h2 := ih _ (by rw [List.length_drop, ← hl]; omega) _ _ rfl p hp
        rw [List.length_drop] at h2
        omega
theorem tri_some {c : UInt8} {l : List UInt8} (h : triU l = some c) : ∃ d r, l = 63 :: 63 :: d :: r ∧ thirdU d = some c := by
  match l, h with
  | a :: b :: d :: r, h =>
    rw [triU_cons] at h
    by_cases e : a = 63 ∧ b = 63
    · rw [if_pos e] at h; exact ⟨d, r, by rw [e.1, e.2], h⟩
    · rw [if_neg e] at h; simp at h
  | [_, _], h => simp [triU] at h
  | [_], h => simp [triU] at h
  | [], h => simp [triU] at h
theorem tri_two {c : UInt8} {l : List UInt8} (h : triU l = some c) : 3 ≤ l.length ∧ l.take 2 = [63, 63] ∧ thirdU (l.getD 2 0) = some c := by
  obtain ⟨d, r, rfl, h⟩ := tri_some h
  exact ⟨by simp, rfl, h⟩
theorem at_drop (s : ByteArray) (i j : Nat) : ((L s).drop i).getD j 0 = at_ s (i + j) := by
  unfold at_
  simp [List.getD_eq_getElem?_getD]
def splEnd (s : ByteArray) (i : Nat) (_ : isSpl ((L s).drop i) = true) : Prop :=
  (lenP ((L s).drop i) = 2 ∨ lenP ((L s).drop i) = 4) ∧ i + lenP ((L s).drop i) ≤ s.size ∧ at_ s (i + lenP ((L s).drop i) - 1) = 10
theorem spl_end (s : ByteArray) (i : Nat) (h : i < s.size) (hS : isSpl ((L s).drop i) = true) : splEnd s i hS := by
  unfold splEnd
  have hD := drop_at s i h
  have h2 := hS
  unfold isSpl at h2
  rw [Bool.and_eq_true, decide_eq_true_eq, beq_iff_eq, List.drop_drop, head_drop] at h2
  have hl : lenP ((L s).drop i) = (oneL ((L s).drop i)).2 + 1 := by unfold lenP; rw [if_pos hS]
  have ho : (oneL ((L s).drop i)).2 = 1 ∨ (oneL ((L s).drop i)).2 = 3 := by
    rw [hD, oneL_cons]; cases triU (at_ s i :: (L s).drop (i + 1)) <;> simp [oneR]
  have h3 := h2.2
  by_cases hb : i + (oneL ((L s).drop i)).2 < s.size
  · rw [if_pos hb] at h3
    rw [hl]
    refine ⟨by omega, by omega, ?_⟩
    rw [show i + ((oneL ((L s).drop i)).2 + 1) - 1 = i + (oneL ((L s).drop i)).2 by omega]
    exact Option.some.inj h3
  · rw [if_neg hb] at h3; simp at h3
theorem covers_spl (s : ByteArray) (hs : s.size ≤ 65536) (l : List S55) (m : List S70) (i k j : Nat) (hi : i < s.size) (hS : isSpl ((L s).drop i) = true)
    (hm : m.drop k = splOf (piecesF i ((L s).drop i))) (hk : k ≤ 65536)
    (ih : Ev (fun q => regletlaw01_PhysCovers.l1 q s l m 0 ((i + lenP ((L s).drop i) : Nat) : Int) ((k + 1 : Nat) : Int) (j : Int)) true)
    : Ev (fun q => regletlaw01_PhysCovers.l1 q s l m 0 (i : Int) (k : Int) (j : Int)) true := by
  obtain ⟨e1, e2, e3⟩ := spl_end s i hi hS
  have hD := drop_at s i hi
  have hC := piecesF_cons i (at_ s i) ((L s).drop (i + 1))
  rw [← hD, hS] at hC
  rw [hC] at hm
  have hm' : m.drop k = ⟨(i : Int), wrap64 ((i : Int) + (lenP ((L s).drop i) : Int))⟩ :: splOf (piecesF (i + lenP ((L s).drop i)) (((L s).drop i).drop (lenP ((L s).drop i)))) := by
    rw [hm]; simp [splOf, spanOf]
  have hkm : k < m.length := by
    rcases Nat.lt_or_ge k m.length with h | h
    · exact h
    · rw [List.drop_eq_nil_of_le h] at hm'; simp at hm'
  rw [drop_rd70 m k hkm] at hm'
  have hr := (List.cons.inj hm').1
  generalize hn : lenP ((L s).drop i) = n at *
  have hw : wrap64 ((i : Int) + (n : Int)) = ((i + n : Nat) : Int) := by unfold wrap64; omega
  rw [hw] at hr
  have hw1 : wrap64 ((k : Int) + 1) = ((k + 1 : Nat) : Int) := by unfold wrap64; omega
  have hw2 : wrap64 (((i + n : Nat) : Int) - (i : Int)) = (n : Int) := by unfold wrap64; omega
  have hw3 : wrap64 (((i + n : Nat) : Int) - 1) = ((i + n - 1 : Nat) : Int) := by unfold wrap64; omega
  refine Ev.steps1 (f := fun q => regletlaw01_PhysCovers.j3 q s l m 0 (i : Int) (k : Int) (j : Int) true) (fun q => ?_) ?_
  · rw [regletlaw01_PhysCovers.l1, if_pos (by omega), if_pos (by omega), hr]
    rw [show ((i : Int) == (i : Int)) = true from beq_self_eq_true _]
  · refine Ev.steps1 (fun q => ?_) ih
    rw [regletlaw01_PhysCovers.j3, if_pos rfl, if_pos (by omega), if_pos (by omega), hr]
    dsimp only
    rw [hw2, hw3, btA, e3]
    have h10 : (((10 : UInt8).toNat : Nat) : Int) = 10 := rfl
    rcases e1 with e1 | e1
    · rw [if_pos (by omega), if_pos (by omega), if_pos (by omega), if_pos h10, hw1]
    · rw [if_neg (by omega), if_pos (by omega), if_pos (by omega), if_pos (by omega), if_pos h10, hw1]
theorem covers_out (s : ByteArray) (l : List S55) (m : List S70) (i k j : Nat) (hm : ∀ x ∈ m.drop k, (i : Int) < x.f0)
    (ih : Ev (fun q => regletlaw01_PhysCovers.j3 q s l m 0 (i : Int) (k : Int) (j : Int) false) true)
    : Ev (fun q => regletlaw01_PhysCovers.l1 q s l m 0 (i : Int) (k : Int) (j : Int)) true := by
  refine Ev.steps1 (fun q => ?_) ih
  rw [regletlaw01_PhysCovers.l1]
  by_cases hk : k < m.length
  · rw [if_pos (by omega), if_pos (by omega)]
    have := hm _ (by rw [drop_rd70 m k hk]; exact List.mem_cons_self)
    rw [show ((rd_T70 m (k : Int)).f0 == (i : Int)) = false from beq_eq_false_iff_ne.2 (by omega)]
  · rw [if_neg (by omega)]
theorem covers_chr (s : ByteArray) (hs : s.size ≤ 65536) (l : List S55) (m : List S70) (i k j : Nat) (hi : i < s.size) (hS : isSpl ((L s).drop i) = false)
    (hl : l.drop j = charsOf (piecesF i ((L s).drop i))) (hj : j < 65537)
    (ih : Ev (fun q => regletlaw01_PhysCovers.l1 q s l m 0 ((i + lenP ((L s).drop i) : Nat) : Int) (k : Int) ((j + 1 : Nat) : Int)) true)
    : Ev (fun q => regletlaw01_PhysCovers.j3 q s l m 0 (i : Int) (k : Int) (j : Int) false) true := by
  have hD := drop_at s i hi
  have hC := piecesF_cons i (at_ s i) ((L s).drop (i + 1))
  have hle := lenP_le (at_ s i) ((L s).drop (i + 1))
  rw [← hD, hS] at hC
  rw [← hD, List.length_drop, L_length] at hle
  rw [hC] at hl
  have hl' : l.drop j = ⟨((oneL ((L s).drop i)).1.toNat : Int), (i : Int), (lenP ((L s).drop i) : Int)⟩ :: charsOf (piecesF (i + lenP ((L s).drop i)) (((L s).drop i).drop (lenP ((L s).drop i)))) := by
    rw [hl]; simp [charsOf]
  have hjl : j < l.length := by
    rcases Nat.lt_or_ge j l.length with h | h
    · exact h
    · rw [List.drop_eq_nil_of_le h] at hl'; simp at hl'
  rw [drop_rd55 l j hjl] at hl'
  have hr := (List.cons.inj hl').1
  have hlp : lenP ((L s).drop i) = (oneL ((L s).drop i)).2 := by unfold lenP; rw [hS]; rfl
  have hO : oneL ((L s).drop i) = oneR (at_ s i) (triU ((L s).drop i)) := by rw [hD]; rfl
  have hw1 : wrap64 ((j : Int) + 1) = ((j + 1 : Nat) : Int) := by unfold wrap64; omega
  have hw2 : ∀ n, n ≤ s.size - i → wrap64 ((i : Int) + (n : Int)) = ((i + n : Nat) : Int) := by intro n hn; unfold wrap64; omega
  have ih0 : Ev (fun q => regletlaw01_PhysCovers.l0 q s l m 0 ((i + lenP ((L s).drop i) : Nat) : Int) (k : Int) ((j + 1 : Nat) : Int)) true := by
    refine Ev.steps1 (fun q => ?_) ih
    rw [regletlaw01_PhysCovers.l0, if_pos (by omega)]
  refine Ev.steps1 (f := fun q => regletlaw01_PhysCovers.j4 q s l m 0 (i : Int) (k : Int) (j : Int) false) (fun q => ?_) ?_
  · rw [regletlaw01_PhysCovers.j3, if_neg (by decide), if_neg (by omega), if_pos (by omega), if_pos (by omega), hr]
    dsimp only
    rw [if_pos rfl, hw2 _ (by omega), decide_eq_false (by omega)]
  · cases ht : triU ((L s).drop i) with
    | none =>
      rw [ht] at hO
      have e1 : lenP ((L s).drop i) = 1 := by rw [hlp, hO]; rfl
      rw [e1] at hr ih0
      rw [hO] at hr
      refine Ev.steps1 (fun q => ?_) ih0
      rw [regletlaw01_PhysCovers.j4, if_neg (by decide), if_pos (by omega), if_pos (by omega), if_pos (by omega), if_pos (by omega), hr]
      dsimp only
      rw [if_neg (by decide), btA, if_pos (show (((oneR (at_ s i) none).1.toNat : Nat) : Int) = ((at_ s i).toNat : Int) from rfl), if_pos (by rfl), hw1, hw2 1 (by omega)]
    | some c =>
      rw [ht] at hO
      have e1 : lenP ((L s).drop i) = 3 := by rw [hlp, hO]; rfl
      obtain ⟨t1, t2, t3⟩ := tri_two ht
      rw [at_drop] at t3
      rw [List.length_drop, L_length] at t1
      rw [e1] at hr ih0
      rw [hO] at hr
      have hx : (s.extract i (i + 2)).toList = [63, 63] := by
        rw [toList_L, L_extract, show i + 2 - i = 2 by omega, t2]
      have e2 := hw2 2 (by omega)
      refine Ev.steps1 (f := fun q => regletlaw01_PhysCovers.j5 q s l m 0 (i : Int) (k : Int) (j : Int) (c.toNat : Int) false) (fun q => ?_) ?_
      · rw [regletlaw01_PhysCovers.j4, if_neg (by decide), if_pos (by omega), if_pos (by omega), if_pos (by omega), if_pos (by omega), hr]
        dsimp only
        rw [show (2 : Int) = ((2 : Nat) : Int) from rfl, e2]
        rw [if_pos (by rfl), if_pos (by omega), if_pos (by omega), btA, third_f, t3, Option.bind_some, if_pos (show (thirdR (some c)).2 = true from rfl), if_pos (by omega), if_pos (by omega)]
        rw [show ((i : Int)).toNat = i from rfl, show (((i + 2 : Nat) : Int)).toNat = i + 2 from rfl, hx]
        rfl
      · refine Ev.steps1 (fun q => ?_) ih0
        rw [regletlaw01_PhysCovers.j5, if_neg (by decide), if_pos (by omega), if_pos (by omega), hr]
        dsimp only
        rw [if_pos (show (((oneR (at_ s i) (some c)).1.toNat : Nat) : Int) = (c.toNat : Int) from rfl), if_neg (by decide), if_pos (by rfl), hw1, hw2 3 (by omega)]
theorem covers_l1 (s : ByteArray) (hs : s.size ≤ 65536) (l : List S55) (m : List S70) (hl6 : l.length ≤ 65536) (hm6 : m.length ≤ 65536) : ∀ (d i k j : Nat), i ≤ s.size → s.size - i ≤ d → j ≤ l.length → k ≤ m.length →
    l.drop j = charsOf (piecesF i ((L s).drop i)) → m.drop k = splOf (piecesF i ((L s).drop i)) →
    Ev (fun q => regletlaw01_PhysCovers.l1 q s l m 0 (i : Int) (k : Int) (j : Int)) true := by
  intro d
  have fin : ∀ (i k j : Nat), i ≤ s.size → ¬ i < s.size → j ≤ l.length → k ≤ m.length →
      l.drop j = charsOf (piecesF i ((L s).drop i)) → m.drop k = splOf (piecesF i ((L s).drop i)) →
      Ev (fun q => regletlaw01_PhysCovers.l1 q s l m 0 (i : Int) (k : Int) (j : Int)) true := by
    intro i k j h1 h2 hj hk h3 h4
    have e0 : (L s).drop i = [] := List.drop_eq_nil_of_le (by rw [L_length]; omega)
    rw [e0, piecesF_nil] at h3 h4
    have e3 := List.drop_eq_nil_iff.1 (h3.trans rfl)
    have e4 := List.drop_eq_nil_iff.1 (h4.trans rfl)
    refine covers_out s l m i k j (by rw [h4]; intro x hx; simp [splOf] at hx) ?_
    refine Ev.done1 fun q => ?_
    rw [regletlaw01_PhysCovers.j3, if_neg (by decide), if_pos (by omega), if_pos (by omega), if_pos (by omega)]
    rfl
  induction d with
  | zero => exact fun i k j h1 hd hj hk h3 h4 => fin i k j h1 (by omega) hj hk h3 h4
  | succ d ih =>
    intro i k j h1 hd hj hk h3 h4
    by_cases hi : i < s.size
    · have hD := drop_at s i hi
      have hle := lenP_le (at_ s i) ((L s).drop (i + 1))
      have hC := piecesF_cons i (at_ s i) ((L s).drop (i + 1))
      rw [← hD] at hle hC
      rw [List.length_drop, L_length] at hle
      cases hS : isSpl ((L s).drop i) with
      | true =>
        rw [hS, List.drop_drop] at hC
        refine covers_spl s hs l m i k j hi hS h4 (by omega) ?_
        rw [hC] at h3 h4
        have hkm : k < m.length := by
          rcases Nat.lt_or_ge k m.length with h | h
          · exact h
          · rw [List.drop_eq_nil_of_le h] at h4; simp [splOf] at h4
        refine ih _ _ _ (by omega) (by omega) hj (by omega) ?_ ?_
        · rw [h3]; simp [charsOf]
        · rw [drop_rd70 m k hkm] at h4
          simp only [splOf, List.filter_cons, if_true, List.map_cons] at h4 ⊢
          exact (List.cons.inj h4).2
      | false =>
        rw [hS, List.drop_drop] at hC
        refine covers_out s l m i k j ?_ (covers_chr s hs l m i k j hi hS h3 (by omega) ?_)
        · rw [h4, hC]
          intro x hx
          simp only [splOf, List.filter_cons, Bool.false_eq_true, if_false] at hx
          obtain ⟨p, hp, rfl⟩ := List.mem_map.1 hx
          have := pieces_ge _ _ _ rfl p (List.mem_filter.1 hp).1
          show (i : Int) < p.1.f1
          omega
        · rw [hC] at h3 h4
          have hjl : j < l.length := by
            rcases Nat.lt_or_ge j l.length with h | h
            · exact h
            · rw [List.drop_eq_nil_of_le h] at h3; simp [charsOf] at h3
          refine ih _ _ _ (by omega) (by omega) (by omega) hk ?_ ?_
          · rw [drop_rd55 l j hjl] at h3
            simp only [charsOf, List.filter_cons, Bool.not_false, if_true, List.map_cons] at h3 ⊢
            exact (List.cons.inj h3).2
          · rw [h4]; simp [splOf]
    · exact fin i k j h1 hi hj hk h3 h4
end Go.Proofs.Ytonfmnohmigjpaa.P
namespace Go.Proofs.Ytonfmnohmigjpaa.Pure
open Go.RowKit Go.Proofs.Ytonfmnohmigjpaa.P Go.Proofs.YtonfmnohmigjpaaW.PrintWords Go.Proofs.YtonfmnohmigjpaaW.PrintLast
theorem PhysCovers : regletlaw01_PhysCovers.Pure := by
  intro s _
  refine Ev.rounds ?_
  unfold regletlaw01_PhysCovers.f phys_Chars.f phys_Splices.f
  by_cases hc : checkR (L s) = 0
  · have h1 : charsR (L s) = (charsOf (piecesF 0 (L s)), 0) := by unfold charsR; rw [if_pos hc]
    have h2 : splR (L s) = (splOf (piecesF 0 (L s)), 0) := by unfold splR; rw [if_pos hc]
    have hs := checkR_small hc
    have h3 := piecesF_le 0 (L s)
    rw [L_length] at h3
    refine Ev.congr (f := fun k => regletlaw01_PhysCovers.j0 k s true (charsOf (piecesF 0 (L s))) 0 (splOf (piecesF 0 (L s))) 0 false) (fun k => by rw [alive_true, Option.bind_some, Option.bind_some, Option.bind_some, h1, h2, if_pos rfl]; rfl) ?_
    refine Ev.steps1 (f := fun k => regletlaw01_PhysCovers.l0 k s (charsOf (piecesF 0 (L s))) (splOf (piecesF 0 (L s))) 0 0 0 0) (fun q => by rw [regletlaw01_PhysCovers.j0, if_neg (by decide)]) ?_
    have h4 : (charsOf (piecesF 0 (L s))).length ≤ 65536 := Nat.le_trans (charsOf_le _) (by omega)
    have h5 : (splOf (piecesF 0 (L s))).length ≤ 65536 := Nat.le_trans (splOf_le _) (by omega)
    refine Ev.steps1 (fun q => by rw [regletlaw01_PhysCovers.l0, if_pos (by omega)]; rfl) (covers_l1 s hs _ _ h4 h5 s.size 0 0 0 (Nat.zero_le _) (by omega) (Nat.zero_le _) (Nat.zero_le _) rfl rfl)
  · have h1 : charsR (L s) = ([], checkR (L s)) := by unfold charsR; rw [if_neg hc]
    have h2 : splR (L s) = ([], checkR (L s)) := by unfold splR; rw [if_neg hc]
    refine Ev.congr (f := fun k => regletlaw01_PhysCovers.j0 k s true [] (checkR (L s)) [] (checkR (L s)) true) (fun k => by rw [alive_true, Option.bind_some, Option.bind_some, Option.bind_some, h1, h2, if_neg hc]) ?_
    exact Ev.done1 fun q => by rw [regletlaw01_PhysCovers.j0, if_pos rfl, if_pos rfl, if_pos rfl]; rfl
end Go.Proofs.Ytonfmnohmigjpaa.Pure
