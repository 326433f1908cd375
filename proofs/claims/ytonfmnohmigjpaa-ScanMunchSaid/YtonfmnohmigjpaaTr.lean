/- A text's tokens at their places: kinds and texts stay, and what the tokens are refused for. -/
import Derived.Test.YtonfmnohmigjpaaGM
import Derived.Test.YtonfmnohmigjpaaG56
import Derived.Test.YtonfmnohmigjpaaGC
namespace Go.Proofs.Ytonfmnohmigjpaa.P
open Go.RowKit Go.Proofs.YtonfmnohmigjpaaW.PrintWords Go.Proofs.YtonfmnohmigjpaaW.PrintLast

theorem errT_all {ts : List (S26 × Int)} (h : errT ts = 0) : ∀ p ∈ ts, p.2 = 0 := by
  intro p hp
  unfold errT at h
  cases hf : ts.find? (fun p => p.2 != 0) with
  | none =>
    have := List.find?_eq_none.1 hf p hp
    simpa using this
  | some q =>
    rw [hf] at h
    have := List.find?_some hf
    have h : q.2 = 0 := h
    rw [h] at this
    exact absurd this (by decide)
/-- What Scan answers, where it does not refuse. -/
theorem scan_good (l : List UInt8) (h : (scanR l).2 = 0) : checkR l = 0 ∧ (∀ p ∈ toksR l, p.2 = 0) ∧ scanR l = ((toksR l).map (fun p => reloc (charsR l).1 p.1), 0) := by
  unfold scanR at h
  by_cases h1 : checkR l = 0
  · rw [if_pos h1] at h
    by_cases h2 : errT (toksR l) = 0
    · refine ⟨h1, errT_all h2, ?_⟩
      unfold scanR
      rw [if_pos h1, if_pos h2]
    · rw [if_neg h2] at h; exact absurd h h2
  · rw [if_neg h1] at h; exact absurd h h1
theorem scan_bad (l : List UInt8) (h : (scanR l).2 ≠ 0) : (scanR l).1 = [] := by
  unfold scanR at h ⊢
  by_cases h1 : checkR l = 0
  · rw [if_pos h1] at h ⊢
    by_cases h2 : errT (toksR l) = 0
    · rw [if_pos h2] at h; exact absurd rfl h
    · rw [if_neg h2]
  · rw [if_neg h1]
/-- How long a text's logical text is. -/
theorem bytes_len (s : ByteArray) : (bytesL (charsR (L s)).1).length ≤ s.size := by
  unfold bytesL
  rw [List.length_map]
  unfold charsR
  split
  · exact Nat.le_trans (charsOf_le _) (Nat.le_trans (piecesF_le _ _) (by rw [L_length]; exact Nat.le_refl _))
  · exact Nat.zero_le _
theorem tok_size (n i : Nat) (sp : Bool) (line : List ByteArray) (l : List UInt8) (hl : l.length = n) : ∀ p ∈ toksF i sp line l, p.1.f1.size ≤ l.length := by
  refine toks_ind (fun i sp line l ts => ∀ p ∈ ts, p.1.f1.size ≤ l.length) ?_ ?_ ?_ ?_ n i sp line l hl
  · intro i sp line p hp; simp at hp
  · intro i sp line a r hw ih p hp
    have := ih p hp
    rw [List.length_cons]; omega
  · intro i sp line a r k m hw hf h0 hm ih p hp
    rcases List.mem_cons.1 hp with rfl | hp
    · show (textOf (a :: r) m).size ≤ _
      rw [← L_length, textOf_L, List.length_take]; omega
    · have := ih p hp
      rw [List.length_drop] at this; omega
  · intro i sp line a r e hw hf he p hp
    rw [List.mem_singleton] at hp
    subst hp
    show (textOf (a :: r) 0).size ≤ _
    rw [← L_length, textOf_L, List.length_take]; omega
theorem rd26_map (cs : List S55) (ts : List (S26 × Int)) (i : Nat) (h : i < ts.length) : rd_T26 (ts.map (fun p => reloc cs p.1)) (i : Int) = reloc cs (ts[i]'h).1 := by
  unfold rd_T26
  rw [Int.toNat_natCast, List.getD_eq_getElem?_getD, List.getElem?_map, List.getElem?_eq_getElem h]
  rfl
/-- Where the tokens stand makes no difference to their kinds and texts. -/
theorem toks_any (n i : Nat) (sp : Bool) (line : List ByteArray) (l : List UInt8) (hl : l.length = n) : ∀ j sp', (toksF j sp' line l).map keyT = (toksF i sp line l).map keyT := by
  refine toks_ind (fun i sp line l ts => ∀ j sp', (toksF j sp' line l).map keyT = ts.map keyT) ?_ ?_ ?_ ?_ n i sp line l hl
  · intro i sp line j sp'; rfl
  · intro i sp line a r hw ih j sp'
    rw [toksF_white _ _ _ _ _ hw]; exact ih _ _
  · intro i sp line a r k m hw hf h0 hm ih j sp'
    have := toksF_tok j sp' line a r hw k m hf
    rw [Int.toNat_natCast] at this
    rw [this, List.map_cons, List.map_cons, ih]
    rfl
  · intro i sp line a r e hw hf he j sp'
    rw [toksF_err j sp' line a r hw 0 0 e (by omega) hf]
    rfl
theorem bytes_snoc (p : S55 × Bool) (ps : List (S55 × Bool)) (c : UInt8) (h : (bytesL (charsOf ps)).getLast? = some c) : (bytesL (charsOf (p :: ps))).getLast? = some c := by
  have e : charsOf (p :: ps) = charsOf [p] ++ charsOf ps := by
    unfold charsOf
    rw [← List.map_append, ← List.filter_append]; rfl
  rw [e]
  unfold bytesL at h ⊢
  rw [List.map_append, List.getLast?_append, h]; rfl
/-- A text that ends well has a logical text that ends with a line's end. -/
theorem chars_last : ∀ (n : Nat) (l : List UInt8) (i : Nat) (d : Bool), l.length = n → l.getLast? = some 10 → lastOf d (piecesF i l) = false → (bytesL (charsOf (piecesF i l))).getLast? = some 10 := by
  intro n
  induction n using Nat.strongRecOn with
  | _ n ih =>
    intro l i d hl h10 hd
    cases l with
    | nil => simp at h10
    | cons a r =>
      have hle := lenP_le a r
      rw [piecesF_cons] at hd ⊢
      by_cases hdr : (a :: r).drop (lenP (a :: r)) = []
      · rw [hdr, piecesF_nil] at hd ⊢
        have hs : isSpl (a :: r) = false := hd
        have hlp : lenP (a :: r) = (oneL (a :: r)).2 := by unfold lenP; rw [hs]; rfl
        have hall : (a :: r).length ≤ lenP (a :: r) := List.drop_eq_nil_iff.1 hdr
        rw [hs]
        have h1 : (oneL (a :: r)).1 = 10 := by
          rw [oneL_cons] at hlp ⊢
          cases ht : triU (a :: r) with
          | none =>
            rw [ht] at hlp
            have : r = [] := by
              have : lenP (a :: r) = 1 := hlp
              rw [this, List.length_cons] at hall
              exact List.eq_nil_of_length_eq_zero (by omega)
            subst this
            simpa [oneR] using h10
          | some c =>
            exfalso
            rw [ht] at hlp
            have h3 : lenP (a :: r) = 3 := hlp
            rw [h3] at hall
            match r, ht, hall, h10 with
            | [b, e], ht, _, h10 =>
              rw [triU_cons] at ht
              have : e = 10 := by simpa using h10
              subst this
              split at ht
              · rw [thirdU10] at ht; cases ht
              · cases ht
            | [_], ht, _, _ => simp [triU] at ht
            | [], ht, _, _ => simp [triU] at ht
        simp [charsOf, bytesL, h1]
      · refine bytes_snoc _ _ _ (ih _ ?_ _ _ (isSpl (a :: r)) rfl ?_ hd)
        · rw [← hl, List.length_drop]; omega
        · rw [List.getLast?_drop, if_neg (by intro e; exact hdr (List.drop_eq_nil_of_le e))]; exact h10
theorem log_last (l : List UInt8) (h : checkR l = 0) : bytesL (charsR l).1 = [] ∨ (bytesL (charsR l).1).getLast? = some 10 := by
  unfold charsR
  rw [if_pos h]
  obtain ⟨_, h2⟩ := (check_iff l).1 h
  by_cases hl : l = []
  · left; rw [hl]; rfl
  · right
    exact chars_last _ l 0 false rfl (h2 hl).1 (h2 hl).2
end Go.Proofs.Ytonfmnohmigjpaa.P
