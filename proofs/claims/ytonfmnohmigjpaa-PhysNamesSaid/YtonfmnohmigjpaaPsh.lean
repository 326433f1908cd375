/- Pieces of a text put behind another one, and of a text with a splice more: plain lists. -/
import Derived.Test.YtonfmnohmigjpaaPurePhysBack
import Derived.Test.YtonfmnohmigjpaaRef2
namespace Go.Proofs.Ytonfmnohmigjpaa.P
open Go.RowKit Go.Proofs.YtonfmnohmigjpaaW.PrintWords Go.Proofs.YtonfmnohmigjpaaW.PrintLast

theorem thirdU10 : thirdU 10 = none := by decide
theorem L_app (a b : ByteArray) : L (a ++ b) = L a ++ L b := by unfold L; rw [ByteArray.data_append, Array.toList_append]
theorem lenOne {a : UInt8} {r : List UInt8} (h : triU (a :: r) = none) : lenP (a :: r) = if isSpl (a :: r) then 2 else 1 := by
  unfold lenP; rw [oneL_cons, h]; rfl
theorem lenThree {a d : UInt8} {r : List UInt8} (h : triU (a :: r) = some d) : lenP (a :: r) = if isSpl (a :: r) then 4 else 3 := by
  unfold lenP; rw [oneL_cons, h]; rfl
theorem tri_none_len {a : UInt8} {r : List UInt8} (h : lenP (a :: r) ≤ 2) : triU (a :: r) = none := by
  cases e : triU (a :: r) with
  | none => rfl
  | some d => rw [lenThree e] at h; split at h <;> omega
theorem tri_b (a b : UInt8) (y : List UInt8) (hb : b ≠ 63) : triU (a :: b :: y) = none := by
  cases y with
  | nil => rfl
  | cons c y => rw [triU_cons, if_neg (fun e => hb e.2)]
theorem tri_a (a : UInt8) (y : List UInt8) (ha : a ≠ 63) : triU (a :: y) = none := by
  match y with
  | [] => rfl
  | [b] => rfl
  | b :: c :: y => rw [triU_cons, if_neg (fun e => ha e.1)]
theorem tri_c (a b c : UInt8) (y : List UInt8) (hc : thirdU c = none) : triU (a :: b :: c :: y) = none := by
  rw [triU_cons, hc, ite_self]
theorem one_eq {a : UInt8} {r r' : List UInt8} (h : triU (a :: r) = triU (a :: r')) : oneL (a :: r) = oneL (a :: r') := by
  rw [oneL_cons, oneL_cons, h]
/-- The first piece of a text stays, when a splice is put in behind it. -/
theorem head_in (x z y : List UInt8) (hx : x ≠ []) (hb : lenP (x ++ z) ≤ x.length) : oneL (x ++ 92 :: y) = oneL (x ++ z) ∧ isSpl (x ++ 92 :: y) = isSpl (x ++ z) := by
  match x, hx, hb with
  | [a], _, hb =>
    simp only [List.cons_append, List.nil_append, List.length_singleton] at hb ⊢
    have h1 := tri_none_len (show lenP (a :: z) ≤ 2 by omega)
    have h2 := tri_b a 92 y (by decide)
    have h3 : isSpl (a :: z) = false := by
      rw [lenOne h1] at hb
      cases h : isSpl (a :: z) with
      | false => rfl
      | true => rw [h] at hb; simp at hb
    exact ⟨one_eq (h2.trans h1.symm), by rw [h3, splN h2]; simp⟩
  | [a, b], _, hb =>
    simp only [List.cons_append, List.nil_append, List.length_cons, List.length_nil] at hb ⊢
    have h1 := tri_none_len (show lenP (a :: b :: z) ≤ 2 by omega)
    have h2 := tri_c a b 92 y thirdU92
    exact ⟨one_eq (h2.trans h1.symm), by rw [splN h1, splN h2]; simp⟩
  | [a, b, c], _, hb =>
    simp only [List.cons_append, List.nil_append, List.length_cons, List.length_nil] at hb ⊢
    have h3 : triU (a :: b :: c :: 92 :: y) = triU (a :: b :: c :: z) := by rw [triU_cons, triU_cons]
    refine ⟨one_eq h3, ?_⟩
    cases h : triU (a :: b :: c :: z) with
    | none => rw [splN (h3.trans h), splN h]; simp
    | some d =>
      have h4 : isSpl (a :: b :: c :: z) = false := by
        rw [lenThree h] at hb
        cases h : isSpl (a :: b :: c :: z) with
        | false => rfl
        | true => rw [h] at hb; simp at hb
      rw [h4, splS (h3.trans h)]; simp
  | a :: b :: c :: e :: r, _, hb =>
    simp only [List.cons_append] at hb ⊢
    have h3 : triU (a :: b :: c :: e :: (r ++ 92 :: y)) = triU (a :: b :: c :: e :: (r ++ z)) := by rw [triU_cons, triU_cons]
    refine ⟨one_eq h3, ?_⟩
    cases h : triU (a :: b :: c :: e :: (r ++ z)) with
    | none => rw [splN (h3.trans h), splN h]; simp
    | some d => rw [splS (h3.trans h), splS h]; simp
/-- The first piece of a text that ends well stays, when another text is put behind it. -/
theorem head_app (x y : List UInt8) (hx : x ≠ []) (hl : x.getLast? = some 10) : oneL (x ++ y) = oneL x ∧ isSpl (x ++ y) = isSpl x := by
  match x, hx, hl with
  | [a], _, hl =>
    simp only [List.getLast?_singleton, Option.some.injEq] at hl
    subst hl
    have h1 := tri_a 10 ([] : List UInt8) (by decide)
    have h2 := tri_a 10 y (by decide)
    exact ⟨one_eq (h2.trans h1.symm), by rw [splN h1]; exact (splN h2).trans (by simp)⟩
  | [a, b], _, hl =>
    simp only [List.getLast?_cons_cons, List.getLast?_singleton, Option.some.injEq] at hl
    subst hl
    have h1 := tri_b a 10 ([] : List UInt8) (by decide)
    have h2 := tri_b a 10 y (by decide)
    exact ⟨one_eq (h2.trans h1.symm), by rw [splN h1]; exact (splN h2).trans (by simp)⟩
  | [a, b, c], _, hl =>
    simp only [List.getLast?_cons_cons, List.getLast?_singleton, Option.some.injEq] at hl
    subst hl
    have h1 := tri_c a b 10 ([] : List UInt8) thirdU10
    have h2 := tri_c a b 10 y thirdU10
    exact ⟨one_eq (h2.trans h1.symm), by rw [splN h1]; exact (splN h2).trans (by simp)⟩
  | a :: b :: c :: e :: r, _, _ =>
    simp only [List.cons_append]
    have h3 : triU (a :: b :: c :: e :: (r ++ y)) = triU (a :: b :: c :: e :: r) := by rw [triU_cons, triU_cons]
    refine ⟨one_eq h3, ?_⟩
    cases h : triU (a :: b :: c :: e :: r) with
    | none => rw [splN (h3.trans h), splN h]; simp
    | some d => rw [splS (h3.trans h), splS h]; simp
theorem lenP_of {l l' : List UInt8} (h : oneL l = oneL l' ∧ isSpl l = isSpl l') : lenP l = lenP l' := by
  unfold lenP; rw [h.1, h.2]
/-- Pieces, n bytes on. -/
def shP (n : Nat) (p : S55 × Bool) : S55 × Bool := (⟨p.1.f0, p.1.f1 + (n : Int), p.1.f2⟩, p.2)
theorem pieces_shift (n : Nat) : ∀ (m : Nat) (l : List UInt8) (i : Nat), l.length = m → piecesF (i + n) l = (piecesF i l).map (shP n) := by
  intro m
  induction m using Nat.strongRecOn with
  | _ m ih =>
    intro l i hl
    cases l with
    | nil => rw [piecesF_nil, piecesF_nil]; rfl
    | cons a r =>
      have h1 := lenP_le a r
      rw [piecesF_cons, piecesF_cons, List.map_cons, show i + n + lenP (a :: r) = i + lenP (a :: r) + n by omega, ih _ (by rw [List.length_drop, ← hl]; omega) _ _ rfl]
      simp [shP]
theorem getLast_drop (x : List UInt8) (n : Nat) (h : n < x.length) : (x.drop n).getLast? = x.getLast? := by
  rw [List.getLast?_drop, if_neg (by omega)]
theorem pieces_app : ∀ (n : Nat) (x y : List UInt8) (i : Nat), x.length = n → (x ≠ [] → x.getLast? = some 10) → piecesF i (x ++ y) = piecesF i x ++ piecesF (i + x.length) y := by
  intro n
  induction n using Nat.strongRecOn with
  | _ n ih =>
    intro x y i hn hl
    cases x with
    | nil => rw [piecesF_nil]; rfl
    | cons a r =>
      have h := head_app (a :: r) y (by simp) (hl (by simp))
      have h1 := lenP_le a r
      have hp := lenP_of h
      rw [List.cons_append] at h hp
      rw [List.cons_append, piecesF_cons, piecesF_cons, hp, h.1, h.2, List.cons_append]
      congr 1
      rw [← List.cons_append, List.drop_append_of_le_length h1.2, ih _ (by rw [List.length_drop, ← hn]; omega) _ _ _ rfl]
      · rw [List.length_drop, show i + lenP (a :: r) + ((a :: r).length - lenP (a :: r)) = i + (a :: r).length by omega]
      · intro hne
        rw [getLast_drop]
        · exact hl (by simp)
        · rcases Nat.lt_or_ge (lenP (a :: r)) (a :: r).length with h | h
          · exact h
          · exact absurd (List.drop_eq_nil_of_le h) hne
theorem pieces_split : ∀ (ps : List (S55 × Bool)) (l : List UInt8) (i : Nat) (q : S55 × Bool) (qs : List (S55 × Bool)), piecesF i l = ps ++ q :: qs →
    ∃ x z, l = x ++ z ∧ q.1.f1 = ((i + x.length : Nat) : Int) ∧ piecesF (i + x.length) z = q :: qs ∧ ∀ y, piecesF i (x ++ 92 :: y) = ps ++ piecesF (i + x.length) (92 :: y) := by
  intro ps
  induction ps with
  | nil =>
    intro l i q qs h
    refine ⟨[], l, rfl, ?_, h, fun y => rfl⟩
    cases l with
    | nil => rw [piecesF_nil] at h; simp at h
    | cons a r =>
      rw [piecesF_cons] at h
      rw [← (List.cons.inj h).1]; rfl
  | cons p ps ih =>
    intro l i q qs h
    cases l with
    | nil => rw [piecesF_nil] at h; simp at h
    | cons a r =>
      have h1 := lenP_le a r
      rw [piecesF_cons, List.cons_append] at h
      obtain ⟨e1, e2⟩ := List.cons.inj h
      obtain ⟨x, z, g1, g2, g3, g4⟩ := ih _ _ _ _ e2
      have hlen : ((a :: r).take (lenP (a :: r)) ++ x).length = lenP (a :: r) + x.length := by rw [List.length_append, List.length_take]; omega
      have hL : (a :: r).take (lenP (a :: r)) ++ x ++ z = a :: r := by rw [List.append_assoc, ← g1, List.take_append_drop]
      have hne : (a :: r).take (lenP (a :: r)) ++ x ≠ [] := by intro e; rw [e] at hlen; simp at hlen; omega
      refine ⟨(a :: r).take (lenP (a :: r)) ++ x, z, hL.symm, ?_, ?_, ?_⟩
      · rw [hlen, g2]; congr 1; omega
      · rw [hlen, ← Nat.add_assoc]; exact g3
      · intro y
        have hh := head_in _ z y hne (by rw [hL, hlen]; omega)
        rw [hL] at hh
        have hp := lenP_of hh
        rw [hlen, ← Nat.add_assoc]
        obtain ⟨b, w, hbw⟩ := List.exists_cons_of_ne_nil (show (a :: r).take (lenP (a :: r)) ++ x ++ 92 :: y ≠ [] by simp)
        rw [hbw] at hh hp
        rw [hbw, piecesF_cons, hh.1, hh.2, hp, e1, List.cons_append]
        congr 1
        rw [← g4, ← hbw]
        congr 1
        rw [List.append_assoc, List.drop_append_of_le_length (by rw [List.length_take]; omega), List.drop_eq_nil_of_le (by rw [List.length_take]; omega)]
        rfl
theorem pieces_bd (n : Nat) : ∀ (l : List UInt8) (i : Nat), l.length = n → ∀ p ∈ piecesF i l, (i : Int) ≤ p.1.f1 ∧ p.1.f1 < ((i + l.length : Nat) : Int) := by
  induction n using Nat.strongRecOn with
  | _ n ih =>
    intro l i hl p hp
    cases l with
    | nil => simp [piecesF_nil] at hp
    | cons a r =>
      have h1 := lenP_le a r
      rw [piecesF_cons] at hp
      rcases List.mem_cons.1 hp with rfl | hp
      · simp only; omega
      · have h2 := ih _ (by rw [List.length_drop, ← hl]; omega) _ _ rfl p hp
        rw [List.length_drop] at h2
        omega
theorem lastOf_app (d : Bool) (ps : List (S55 × Bool)) (q : S55 × Bool) (qs : List (S55 × Bool)) : lastOf d (ps ++ q :: qs) = lastOf q.2 qs := by
  induction ps generalizing d with
  | nil => rfl
  | cons p ps ih => exact ih _
theorem lastOf_sh (d : Bool) (n : Nat) (ps : List (S55 × Bool)) : lastOf d (ps.map (shP n)) = lastOf d ps := by
  induction ps generalizing d with
  | nil => rfl
  | cons p ps ih => exact ih _
theorem charsOf_app (ps qs : List (S55 × Bool)) : charsOf (ps ++ qs) = charsOf ps ++ charsOf qs := by simp [charsOf]
def shC (n : Nat) (c : S55) : S55 := ⟨c.f0, c.f1 + (n : Int), c.f2⟩
theorem charsOf_sh (n : Nat) (ps : List (S55 × Bool)) : charsOf (ps.map (shP n)) = (charsOf ps).map (shC n) := by
  induction ps with
  | nil => rfl
  | cons p ps ih =>
    obtain ⟨c, b⟩ := p
    simp only [charsOf, List.map_cons, List.filter_cons] at *
    cases b <;> simp [shP, shC] at * <;> exact ih
theorem bytesL_sh (n : Nat) (cs : List S55) : bytesL (cs.map (shC n)) = bytesL cs := by simp [bytesL, shC]
theorem check_iff (l : List UInt8) : checkR l = 0 ↔ l.length ≤ 65536 ∧ (l ≠ [] → l.getLast? = some 10 ∧ lastOf false (piecesF 0 l) = false) := by
  unfold checkR
  by_cases h1 : l.length > 65536
  · rw [if_pos h1]; exact ⟨fun h => absurd h (by decide), fun h => absurd h.1 (by omega)⟩
  · rw [if_neg h1]
    by_cases h2 : l = []
    · rw [if_pos h2]; exact ⟨fun _ => ⟨by omega, fun h => absurd h2 h⟩, fun _ => rfl⟩
    · rw [if_neg h2, getD_last l h2, ends_last _ l 0 l.length rfl (by omega) (by omega)]
      by_cases h3 : l.getD (l.length - 1) 0 = 10
      · rw [if_neg (by simpa using h3)]
        cases h4 : lastOf false (piecesF 0 l) with
        | true => rw [if_pos rfl]; exact ⟨fun h => absurd h (by decide), fun h => absurd (h.2 h2).2 (by decide)⟩
        | false => rw [if_neg (by decide)]; exact ⟨fun _ => ⟨by omega, fun _ => ⟨by rw [h3], rfl⟩⟩, fun _ => rfl⟩
      · rw [if_pos h3]; exact ⟨fun h => absurd h (by decide), fun h => absurd (Option.some.inj (h.2 h2).1) h3⟩
theorem charsOf_split : ∀ (ps : List (S55 × Bool)) (k : Nat) (c : S55) (r : List S55), (charsOf ps).drop k = c :: r → ∃ p1 p2, ps = p1 ++ (c, false) :: p2 := by
  intro ps
  induction ps with
  | nil => intro k c r h; simp [charsOf] at h
  | cons p ps ih =>
    intro k c r h
    obtain ⟨a, b⟩ := p
    cases b with
    | true =>
      obtain ⟨p1, p2, e⟩ := ih k c r (by simpa [charsOf] using h)
      exact ⟨(a, true) :: p1, p2, by rw [e]; rfl⟩
    | false =>
      have h' : (a :: charsOf ps).drop k = c :: r := by simpa [charsOf] using h
      cases k with
      | zero => exact ⟨[], ps, by rw [List.drop_zero] at h'; rw [(List.cons.inj h').1]; rfl⟩
      | succ k =>
        obtain ⟨p1, p2, e⟩ := ih k c r (by simpa using h')
        exact ⟨(a, false) :: p1, p2, by rw [e]; rfl⟩
/-- A splice more, ahead of a character. -/
theorem splice_more (l : List UInt8) (hc : checkR l = 0) (h2 : l.length + 2 ≤ 65536) (k : Nat) (c : S55) (r : List S55) (h : (charsOf (piecesF 0 l)).drop k = c :: r) :
    ∃ n, n ≤ l.length ∧ c.f1 = (n : Int) ∧ checkR (l.take n ++ 92 :: 10 :: l.drop n) = 0 ∧ bytesL (charsOf (piecesF 0 (l.take n ++ 92 :: 10 :: l.drop n))) = bytesL (charsOf (piecesF 0 l)) := by
  obtain ⟨p1, p2, e⟩ := charsOf_split _ _ _ _ h
  obtain ⟨x, z, g1, g2, g3, g4⟩ := pieces_split p1 l 0 _ p2 e
  rw [Nat.zero_add] at g2 g3
  have hz : z ≠ [] := by rintro rfl; rw [piecesF_nil] at g3; simp at g3
  have g5 := g4 (10 :: z)
  rw [Nat.zero_add, piece_spl, pieces_shift 2 _ z _ rfl, g3] at g5
  have hl : l ≠ [] := by rw [g1]; simp [hz]
  obtain ⟨c1, c2⟩ := (check_iff l).1 hc
  obtain ⟨c2, c3⟩ := c2 hl
  refine ⟨x.length, by rw [g1, List.length_append]; omega, g2, ?_, ?_⟩
  · rw [g1, List.take_left, List.drop_left]
    refine (check_iff _).2 ⟨?_, fun _ => ⟨?_, ?_⟩⟩
    · rw [g1, List.length_append] at h2; rw [List.length_append, List.length_cons, List.length_cons]; omega
    · obtain ⟨b, w, rfl⟩ := List.exists_cons_of_ne_nil hz
      rw [g1, List.getLast?_append] at c2
      rw [List.getLast?_append, List.getLast?_cons_cons, List.getLast?_cons_cons]
      exact c2
    · rw [g5, lastOf_app, List.map_cons]
      rw [e, lastOf_app] at c3
      show lastOf false (p2.map (shP 2)) = false
      rw [lastOf_sh]
      exact c3
  · rw [g1, List.take_left, List.drop_left, g5, ← g1, e, charsOf_app, charsOf_app]
    have : charsOf ((⟨92, (x.length : Int), 2⟩, true) :: ((c, false) :: p2).map (shP 2)) = charsOf (((c, false) :: p2).map (shP 2)) := by simp [charsOf]
    rw [this, charsOf_sh]
    unfold bytesL
    rw [List.map_append, List.map_append]
    congr 1
    exact bytesL_sh 2 _
/-- A text behind a text. -/
theorem parts_app (x y : List UInt8) (hx : checkR x = 0) (hy : checkR y = 0) (h2 : x.length + y.length ≤ 65536) :
    checkR (x ++ y) = 0 ∧ charsOf (piecesF 0 (x ++ y)) = charsOf (piecesF 0 x) ++ (charsOf (piecesF 0 y)).map (shC x.length) := by
  obtain ⟨a1, a2⟩ := (check_iff x).1 hx
  obtain ⟨b1, b2⟩ := (check_iff y).1 hy
  have e := pieces_app _ x y 0 rfl (fun h => (a2 h).1)
  rw [Nat.zero_add, show piecesF x.length y = piecesF (0 + x.length) y by rw [Nat.zero_add], pieces_shift x.length _ y 0 rfl] at e
  refine ⟨(check_iff _).2 ⟨by rw [List.length_append]; exact h2, fun hne => ⟨?_, ?_⟩⟩, ?_⟩
  · rw [List.getLast?_append]
    by_cases h : y = []
    · subst h
      rw [List.append_nil] at hne
      rw [(a2 hne).1]; rfl
    · rw [(b2 h).1]; rfl
  · rw [e]
    by_cases h : y = []
    · subst h
      rw [List.append_nil] at hne
      rw [piecesF_nil, List.map_nil, List.append_nil]; exact (a2 hne).2
    · have h3 := (b2 h).2
      obtain ⟨b, w, rfl⟩ := List.exists_cons_of_ne_nil h
      rw [piecesF_cons] at h3 ⊢
      rw [List.map_cons, lastOf_app, lastOf_sh]
      exact h3
  · rw [e, charsOf_app, charsOf_sh]
theorem charsOf_bd (l : List UInt8) : ∀ c ∈ charsOf (piecesF 0 l), 0 ≤ c.f1 ∧ c.f1 < (l.length : Int) := by
  intro c hc
  obtain ⟨p, hp, rfl⟩ := List.mem_map.1 hc
  have := pieces_bd _ l 0 rfl p (List.mem_filter.1 hp).1
  omega
end Go.Proofs.Ytonfmnohmigjpaa.P
