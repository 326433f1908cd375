-- Written by wip/pr.py (the kit's printer, driven for functions that are proved by hand beside it), and put together by wip/mg.py.
import Derived.Test.YtonfmnohmigjpaaGN
import Derived.Test.YtonfmnohmigjpaaFR
import Derived.Test.YtonfmnohmigjpaaFS
import Derived.Test.YtonfmnohmigjpaaG51
/- The longest text that is a token: words, numbers, literals. -/
namespace Go.Proofs.Ytonfmnohmigjpaa.P
open Go.RowKit Go.Proofs.YtonfmnohmigjpaaW.PrintWords Go.Proofs.YtonfmnohmigjpaaW.PrintLast
/-! The longest text that is a token is the first token. -/
def isWordT : List UInt8 → Bool
  | [] => false
  | c :: r => ltrU c && r.all (fun d => ltrU d || dgtU d)
/-- A number, read from its end. -/
def numRev : List UInt8 → Bool
  | [] => false
  | [c] => dgtU c
  | [d, c] => if c = 46 then dgtU d else if sgnU d then false else (dgtU d || ltrU d || d == 46) && dgtU c
  | d :: c :: b :: r => if sgnU d then expU c && numRev (b :: r) else (dgtU d || ltrU d || d == 46) && numRev (c :: b :: r)
def isNumT (t : List UInt8) : Bool := numRev t.reverse
def piecesT (q : UInt8) : List UInt8 → Bool
  | [] => true
  | [c] => !(c == q || c == 10 || c == 92)
  | c :: d :: r => if c = q ∨ c = 10 then false else if c = 92 then (d != 10 && piecesT q r) else piecesT q (d :: r)
/-- A literal with that prefix? -/
def litP (q : UInt8) (p t : List UInt8) : Bool :=
  decide (p.length + 2 ≤ t.length) && decide (t.take p.length = p) && t.getD p.length 0 == q && t.getD (t.length - 1) 0 == q && piecesT q ((t.drop (p.length + 1)).take (t.length - 1 - (p.length + 1)))
def isLitT (q : UInt8) (t : List UInt8) : List (List UInt8) → Bool
  | [] => false
  | p :: ps => if litP q p t then (q == 34 || decide (t.length > p.length + 2)) else isLitT q t ps
def pre3 : List (List UInt8) := [[], [117], [85], [76]]
def pre4 : List (List UInt8) := [[], [117, 56], [117], [85], [76]]
def kindT (t : List UInt8) : Int :=
  if t = [10] then 9 else if isWordT t then 1 else if isNumT t then 2 else if isLitT 39 t pre3 then 3 else if isLitT 34 t pre4 then 4 else if isPct t then 5 else 0
/-! words -/
theorem wordT_all : ∀ (l : List UInt8) (n : Nat), n ≤ l.length → ((l.take n).all (fun d => ltrU d || dgtU d) = true ↔ n ≤ wordT l) := by
  intro l
  induction l with
  | nil => intro n h; simp at h; subst h; simp [wordT]
  | cons c r ih =>
    intro n h
    cases n with
    | zero => simp
    | succ n =>
      rw [List.take_succ_cons, List.all_cons, Bool.and_eq_true, ih n (by simpa using h), wordT]
      split
      · rename_i e; simp [e]
      · rename_i e; simp [e]
theorem isWord_iff (l : List UInt8) (n : Nat) (h : n ≤ l.length) : isWordT (l.take n) = true ↔ 0 < n ∧ n ≤ wordF l := by
  cases n with
  | zero => simp [isWordT]
  | succ n =>
    cases l with
    | nil => simp at h
    | cons c r =>
      rw [List.take_succ_cons, isWordT, Bool.and_eq_true, wordT_all r n (by simpa using h), wordF]
      split
      · rename_i e; simp [e]
      · rename_i e; simp [e]
/-! numbers -/
theorem okc_sgn : ∀ n : Fin 256, (dgtU n.1.toUInt8 || ltrU n.1.toUInt8 || n.1.toUInt8 == 46) = true → sgnU n.1.toUInt8 = false := by decide +kernel
theorem ok_sgn (c : UInt8) (h : (dgtU c || ltrU c || c == 46) = true) : sgnU c = false := by
  have := okc_sgn ⟨c.toNat, c.toNat_lt⟩
  rw [u8_fin] at this
  exact this h
theorem exp_sgn : ∀ n : Fin 256, expU n.1.toUInt8 = true → sgnU n.1.toUInt8 = false := by decide +kernel
theorem exp_no (c : UInt8) (h : expU c = true) : sgnU c = false := by
  have := exp_sgn ⟨c.toNat, c.toNat_lt⟩
  rw [u8_fin] at this
  exact this h
theorem dgt_46 : dgtU 46 = false := by decide
theorem numRev_sgn {d : UInt8} {x : List UInt8} (hs : sgnU d = true) (h : numRev (d :: x) = true) : ∃ c b r, x = c :: b :: r ∧ expU c = true ∧ numRev (b :: r) = true := by
  match x, h with
  | [], h => rw [numRev] at h; have := ok_sgn d (by rw [h]; rfl); rw [hs] at this; exact absurd this (by decide)
  | [c], h =>
    rw [numRev] at h
    split at h
    · have := ok_sgn d (by rw [h]; rfl); rw [hs] at this; exact absurd this (by decide)
    · simp at h
  | c :: b :: r, h =>
    rw [numRev, if_pos hs, Bool.and_eq_true] at h
    exact ⟨c, b, r, rfl, h.1, h.2⟩
theorem numRev_ok {d : UInt8} {x : List UInt8} (hs : sgnU d = false) (h : numRev (d :: x) = true) : (x = [] ∧ dgtU d = true) ∨ (x = [46] ∧ dgtU d = true) ∨ ((dgtU d || ltrU d || d == 46) = true ∧ numRev x = true) := by
  match x, h with
  | [], h => rw [numRev] at h; exact .inl ⟨rfl, h⟩
  | [c], h =>
    rw [numRev] at h
    split at h
    · rename_i e; exact .inr (.inl ⟨by rw [e], h⟩)
    · rw [hs, if_neg (by decide), Bool.and_eq_true] at h
      exact .inr (.inr ⟨h.1, by rw [numRev]; exact h.2⟩)
  | c :: b :: r, h =>
    rw [numRev, hs, if_neg (by decide), Bool.and_eq_true] at h
    exact .inr (.inr h)
theorem take_rev (l : List UInt8) (n : Nat) (h : n < l.length) : (l.take (n + 1)).reverse = l[n] :: (l.take n).reverse := by
  rw [List.take_succ_eq_append_getElem h, List.reverse_append]; rfl
theorem num_reach (l : List UInt8) : ∀ n, n ≤ l.length → numRev (l.take n).reverse = true →
    numF l = n + numT (l.drop n) ∨ (∃ c d r, 1 ≤ n ∧ l.drop (n - 1) = c :: d :: r ∧ expU c = true ∧ sgnU d = true ∧ numF l = (n - 1) + numT (l.drop (n - 1))) := by
  intro n
  induction n using Nat.strongRecOn with
  | _ n ih =>
    intro hn hv
    cases n with
    | zero => simp [numRev] at hv
    | succ n =>
      rw [take_rev l n (by omega)] at hv
      have hdn : l.drop n = l[n] :: l.drop (n + 1) := List.drop_eq_getElem_cons (by omega)
      cases hs : sgnU l[n] with
      | true =>
        obtain ⟨c, b, r, hx, hc, hr⟩ := numRev_sgn hs hv
        have hlen := congrArg List.length hx
        rw [List.length_reverse, List.length_take] at hlen
        simp only [List.length_cons] at hlen
        obtain ⟨m, rfl⟩ : ∃ m, n = m + 1 := ⟨n - 1, by omega⟩
        rw [take_rev l m (by omega)] at hx
        obtain ⟨rfl, hx2⟩ := List.cons.inj hx
        rw [← hx2] at hr
        have hdm : l.drop m = l[m] :: l.drop (m + 1) := List.drop_eq_getElem_cons (by omega)
        rcases ih m (by omega) (by omega) hr with h1 | ⟨c', d', r', h0, h1, h2, h3, h4⟩
        · left
          rw [h1, hdm, hdn, numT, hc, hs]
          simp only [Bool.and_self, if_true]
          omega
        · exfalso
          have : l.drop (m - 1) = l[m - 1] :: l.drop m := by
            have := List.drop_eq_getElem_cons (show m - 1 < l.length by omega)
            rwa [show m - 1 + 1 = m by omega] at this
          rw [this, hdm] at h1
          obtain ⟨_, h5⟩ := List.cons.inj h1
          obtain ⟨h6, _⟩ := List.cons.inj h5
          rw [← h6, exp_no _ hc] at h3
          exact absurd h3 (by decide)
      | false =>
        rcases numRev_ok hs hv with ⟨h1, h2⟩ | ⟨h1, h2⟩ | ⟨h1, h2⟩
        · have hlen := congrArg List.length h1
          rw [List.length_reverse, List.length_take] at hlen
          simp only [List.length_nil] at hlen
          obtain rfl : n = 0 := by omega
          left
          rw [List.drop_zero] at hdn
          cases hr : l.drop 1 with
          | nil => rw [hdn, hr, numF, h2]; rfl
          | cons e z => rw [hdn, hr, numF, h2]; simp only [if_true]; omega
        · have hlen := congrArg List.length h1
          rw [List.length_reverse, List.length_take] at hlen
          simp only [List.length_singleton] at hlen
          obtain rfl : n = 1 := by omega
          left
          have h0 := List.drop_eq_getElem_cons (show 0 < l.length by omega)
          rw [List.drop_zero] at h0
          have hd46 : l[0] = 46 := by
            rw [take_rev l 0 (by omega)] at h1
            exact (List.cons.inj h1).1
          rw [h0, hdn, hd46, numF, dgt_46, h2]
          simp only [Bool.false_eq_true, if_false, beq_self_eq_true, Bool.and_self, if_true, List.drop_succ_cons, List.drop_zero]
          omega
        · rcases ih n (by omega) (by omega) h2 with h3 | ⟨c', d', r', h0, h3, h4, h5, h6⟩
          · cases hr : l.drop (n + 1) with
            | nil =>
              left
              have e1 : numT [l[n]] = 1 := by rw [numT]; exact if_pos h1
              have e2 : numT ([] : List UInt8) = 0 := rfl
              rw [h3, hdn, hr, e1, e2]
            | cons e z =>
              by_cases he : (expU l[n] && sgnU e) = true
              · right
                rw [Bool.and_eq_true] at he
                rw [Nat.add_sub_cancel]
                exact ⟨_, e, z, by omega, by rw [hdn, hr], he.1, he.2, h3⟩
              · left
                rw [h3, hdn, hr, numT, if_neg he, if_pos h1]; omega
          · exfalso
            have : l.drop (n - 1) = l[n - 1] :: l.drop n := by
              have := List.drop_eq_getElem_cons (show n - 1 < l.length by omega)
              rwa [show n - 1 + 1 = n by omega] at this
            rw [this, hdn] at h3
            obtain ⟨_, h7⟩ := List.cons.inj h3
            obtain ⟨h8, _⟩ := List.cons.inj h7
            rw [← h8, hs] at h5
            exact absurd h5 (by decide)
theorem isNum_le (l : List UInt8) (n : Nat) (hn : n ≤ l.length) (h : isNumT (l.take n) = true) : n ≤ numF l := by
  rcases num_reach l n hn h with h1 | ⟨c, d, r, h0, h1, h2, h3, h4⟩
  · omega
  · rw [h1, numT, h2, h3] at h4
    simp only [Bool.and_self, if_true] at h4
    omega
theorem num_grow : ∀ (k : Nat) (r pre : List UInt8), r.length = k → numRev pre = true → numRev ((r.take (numT r)).reverse ++ pre) = true := by
  intro k
  induction k using Nat.strongRecOn with
  | _ k ih =>
    intro r pre hr hp
    have one : ∀ c, (dgtU c || ltrU c || c == 46) = true → numRev (c :: pre) = true := by
      intro c hc
      have hs := ok_sgn c hc
      match pre, hp with
      | [], hp => simp [numRev] at hp
      | [b], hp =>
        rw [numRev] at hp
        rw [numRev, hs]
        have hb : b ≠ 46 := by rintro rfl; exact absurd hp (by decide)
        rw [if_neg hb, if_neg (by decide), hc, hp]; rfl
      | b :: a :: x, hp => rw [numRev, hs, if_neg (by decide), hc, hp]; rfl
    match r, hr with
    | [], _ => simpa [numT] using hp
    | [c], _ =>
      rw [numT]
      split
      · rename_i e; simpa using one c e
      · simpa using hp
    | c :: d :: r, hr =>
      simp only [List.length_cons] at hr
      rw [numT]
      split
      · rename_i e
        rw [Bool.and_eq_true] at e
        rw [List.take_succ_cons, List.take_succ_cons, List.reverse_cons, List.reverse_cons, List.append_assoc, List.append_assoc]
        refine ih r.length (by omega) r _ rfl ?_
        show numRev (d :: c :: pre) = true
        cases pre with
        | nil => simp [numRev] at hp
        | cons b x => rw [numRev, if_pos e.2, e.1, hp]; rfl
      · split
        · rename_i e
          rw [List.take_succ_cons, List.reverse_cons, List.append_assoc]
          exact ih (r.length + 1) (by omega) (d :: r) _ rfl (one c e)
        · simpa using hp
theorem isNum_own (l : List UInt8) (h : 0 < numF l) : isNumT (l.take (numF l)) = true := by
  unfold isNumT
  match l, h with
  | [], h => simp [numF] at h
  | [a], h =>
    rw [numF] at h ⊢
    split at h
    · rename_i e; rw [if_pos e]; simpa [numRev] using e
    · omega
  | a :: b :: r, h =>
    rw [numF] at h ⊢
    split at h
    · rename_i e
      rw [if_pos e, List.take_succ_cons, List.reverse_cons]
      exact num_grow _ (b :: r) [a] rfl e
    · rename_i e
      rw [if_neg e]
      split at h
      · rename_i e2
        rw [if_pos e2, List.take_succ_cons, List.take_succ_cons, List.reverse_cons, List.reverse_cons, List.append_assoc]
        rw [Bool.and_eq_true, beq_iff_eq] at e2
        refine num_grow _ r [b, a] rfl ?_
        rw [numRev, if_pos e2.1]; exact e2.2
      · omega
/-! literals -/
theorem pieces_lit (q : UInt8) (z : List UInt8) : ∀ (k : Nat) (m : List UInt8), m.length = k → piecesT q m = true → litT q (m ++ q :: z) = some (m.length + 1) := by
  intro k
  induction k using Nat.strongRecOn with
  | _ k ih =>
    intro m hm h
    match m, hm, h with
    | [], _, _ => cases z <;> simp [litT]
    | [c], _, h =>
      simp only [piecesT, Bool.not_eq_true', Bool.or_eq_false_iff, beq_eq_false_iff_ne, ne_eq] at h
      simp only [List.cons_append, List.nil_append, litT]
      rw [if_neg h.1.1, if_neg h.1.2, if_neg h.2]
      cases z <;> simp [litT]
    | c :: d :: r, hm, h =>
      simp only [List.length_cons] at hm
      rw [piecesT] at h
      split at h
      · exact absurd h (by decide)
      · rename_i e
        simp only [List.cons_append, litT]
        rw [if_neg (fun x => e (.inl x)), if_neg (fun x => e (.inr x))]
        split at h
        · rename_i e2
          rw [Bool.and_eq_true, bne_iff_ne] at h
          rw [if_pos e2, if_neg h.1, ih r.length (by omega) r rfl h.2]
          simp only [Option.map_some, List.length_cons]
        · rename_i e2
          have := ih (r.length + 1) (by omega) (d :: r) rfl h
          rw [List.cons_append] at this
          rw [if_neg e2, this]
          simp only [Option.map_some, List.length_cons]
theorem lit_pieces (q : UInt8) : ∀ (k : Nat) (l : List UInt8) (n : Nat), l.length = k → litT q l = some n → ∃ m z, l = m ++ q :: z ∧ piecesT q m = true ∧ n = m.length + 1 := by
  intro k
  induction k using Nat.strongRecOn with
  | _ k ih =>
    intro l n hl h
    match l, hl, h with
    | [], _, h => simp [litT] at h
    | [c], _, h =>
      simp only [litT] at h
      split at h
      · rename_i e; exact ⟨[], [], by rw [e]; rfl, rfl, (Option.some.inj h).symm⟩
      · simp at h
    | c :: d :: r, hl, h =>
      simp only [List.length_cons] at hl
      simp only [litT] at h
      split at h
      · rename_i e; exact ⟨[], d :: r, by rw [e]; rfl, rfl, (Option.some.inj h).symm⟩
      · rename_i e
        split at h
        · simp at h
        · rename_i e1
          split at h
          · rename_i e2
            split at h
            · simp at h
            · rename_i e3
              rw [Option.map_eq_some_iff] at h
              obtain ⟨j, h1, rfl⟩ := h
              obtain ⟨m, z, g1, g2, g3⟩ := ih r.length (by omega) r j rfl h1
              refine ⟨c :: d :: m, z, by rw [g1]; rfl, ?_, by simp [g3]⟩
              rw [piecesT, if_neg (fun x => x.elim e e1), if_pos e2, g2]
              simp [e3]
          · rename_i e2
            rw [Option.map_eq_some_iff] at h
            obtain ⟨j, h1, rfl⟩ := h
            obtain ⟨m, z, g1, g2, g3⟩ := ih (r.length + 1) (by omega) (d :: r) j rfl h1
            refine ⟨c :: m, z, by rw [g1]; rfl, ?_, by simp [g3]⟩
            cases m with
            | nil => simp [piecesT, e, e1, e2]
            | cons b m => rw [piecesT, if_neg (fun x => x.elim e e1), if_neg e2]; exact g2
theorem litF_iff (q : UInt8) (x : List UInt8) : 0 < litF q x ↔ ∃ m z, x = q :: (m ++ q :: z) ∧ piecesT q m = true ∧ litF q x = m.length + 2 ∧ (q = 39 → m ≠ []) := by
  constructor
  · intro h
    cases x with
    | nil => simp [litF] at h
    | cons c r =>
      unfold litF at h
      simp only at h
      split at h
      · rename_i e
        split at h
        · omega
        · rename_i e2
          cases h1 : litT q r with
          | none => rw [h1] at h; simp at h
          | some n =>
            obtain ⟨m, z, g1, g2, g3⟩ := lit_pieces q _ r n rfl h1
            refine ⟨m, z, by rw [e, g1], g2, ?_, fun hq hm => ?_⟩
            · unfold litF
              simp only
              rw [if_pos e, if_neg e2, h1, g3]
            · refine e2 ⟨hq, ?_⟩
              rw [g1, hm, hq]; rfl
      · omega
  · rintro ⟨m, z, h1, h2, h3, h4⟩
    omega
theorem litF_val (q : UInt8) (m z : List UInt8) (h : piecesT q m = true) (hm : q = 39 → m ≠ []) : litF q (q :: (m ++ q :: z)) = m.length + 2 := by
  unfold litF
  simp only
  have e2 : ¬ (q = 39 ∧ (m ++ q :: z).head? = some 39) := by
    rintro ⟨h1, h2⟩
    cases m with
    | nil => exact hm h1 rfl
    | cons c m =>
      obtain rfl : c = 39 := by simpa using h2
      cases m with
      | nil => simp [piecesT, h1] at h
      | cons d m => rw [piecesT, if_pos (.inl h1.symm)] at h; exact absurd h (by decide)
  rw [if_true, if_neg e2, pieces_lit q z _ m rfl h]
theorem litP_iff (q : UInt8) (p l : List UInt8) (n : Nat) (hn : n ≤ l.length) : (litP q p (l.take n) = true ∧ (q = 39 → n > p.length + 2)) ↔ (begU p l = true ∧ 0 < litF q (l.drop p.length) ∧ n = p.length + litF q (l.drop p.length)) := by
  have hlen : (l.take n).length = n := by rw [List.length_take]; omega
  constructor
  · rintro ⟨h, hq⟩
    unfold litP at h
    simp only [Bool.and_eq_true, decide_eq_true_eq, beq_iff_eq, hlen] at h
    obtain ⟨⟨⟨⟨h1, h2⟩, h3⟩, h4⟩, h5⟩ := h
    rw [List.take_take, Nat.min_eq_left (by omega)] at h2
    have hb : begU p l = true := decide_eq_true h2
    -- the middle
    obtain ⟨m, hm⟩ : ∃ m, m = ((l.take n).drop (p.length + 1)).take (n - 1 - (p.length + 1)) := ⟨_, rfl⟩
    rw [← hm] at h5
    have hml : m.length = n - p.length - 2 := by rw [hm, List.length_take, List.length_drop, hlen]; omega
    have e1 : l.drop p.length = q :: (m ++ q :: l.drop n) := by
      have d1 : l.drop p.length = l[p.length]'(by omega) :: l.drop (p.length + 1) := List.drop_eq_getElem_cons (by omega)
      have d2 : l[p.length]'(by omega) = q := by
        rw [List.getD_eq_getElem?_getD, List.getElem?_take, if_pos (by omega), List.getElem?_eq_getElem (by omega), Option.getD_some] at h3
        exact h3
      have d3 : l.drop (p.length + 1) = m ++ l.drop (n - 1) := by
        have : m = (l.drop (p.length + 1)).take (n - 1 - (p.length + 1)) := by
          rw [hm, List.drop_take, List.take_take, Nat.min_eq_left (by omega)]
        rw [this]
        conv => lhs; rw [← List.take_append_drop (n - 1 - (p.length + 1)) (l.drop (p.length + 1))]
        rw [List.drop_drop, show p.length + 1 + (n - 1 - (p.length + 1)) = n - 1 by omega]
      have d4 : l.drop (n - 1) = l[n - 1]'(by omega) :: l.drop n := by
        have := List.drop_eq_getElem_cons (show n - 1 < l.length by omega)
        rwa [show n - 1 + 1 = n by omega] at this
      have d5 : l[n - 1]'(by omega) = q := by
        rw [List.getD_eq_getElem?_getD, List.getElem?_take, if_pos (by omega), List.getElem?_eq_getElem (by omega), Option.getD_some] at h4
        exact h4
      rw [d1, d2, d3, d4, d5]
    have hF := litF_val q m (l.drop n) h5 (fun e => by intro e2; rw [e2] at hml; have := hq e; simp at hml; omega)
    rw [e1, hF]
    exact ⟨hb, by omega, by omega⟩
  · rintro ⟨h1, h2, h3⟩
    obtain ⟨m, z, g1, g2, g3, g4⟩ := (litF_iff q _).1 h2
    have hbl := begU_len h1
    have hb := of_decide_eq_true h1
    have hl : l = p ++ q :: (m ++ q :: z) := by
      conv => lhs; rw [← List.take_append_drop p.length l]
      rw [hb, g1]
    have hn2 : n = p.length + 1 + m.length + 1 := by omega
    have ht : l.take n = p ++ q :: (m ++ [q]) := by
      have : l = (p ++ q :: (m ++ [q])) ++ z := by rw [hl]; simp
      rw [this, List.take_append_of_le_length (by simp; omega), List.take_of_length_le (by simp; omega)]
    refine ⟨?_, fun e => ?_⟩
    · unfold litP
      simp only [Bool.and_eq_true, decide_eq_true_eq, beq_iff_eq]
      rw [ht]
      refine ⟨⟨⟨⟨by simp, by rw [List.take_append_of_le_length (Nat.le_refl _), List.take_of_length_le (Nat.le_refl _)]⟩, ?_⟩, ?_⟩, ?_⟩
      · simp [List.getD_eq_getElem?_getD]
      · rw [List.getD_eq_getElem?_getD]
        have : (p ++ q :: (m ++ [q])) = (p ++ q :: m) ++ [q] := by simp
        rw [this, List.getElem?_append_right (by simp)]
        simp
      · have e1 : (p ++ q :: (m ++ [q])).drop (p.length + 1) = m ++ [q] := by
          have : (p ++ q :: (m ++ [q])) = (p ++ [q]) ++ (m ++ [q]) := by simp
          rw [this, List.drop_append_of_le_length (by simp), List.drop_of_length_le (by simp), List.nil_append]
        rw [e1, show (p ++ q :: (m ++ [q])).length - 1 - (p.length + 1) = m.length by simp; omega, List.take_append_of_le_length (Nat.le_refl _), List.take_of_length_le (Nat.le_refl _)]
        exact g2
    · have := g4 e
      have : m.length ≠ 0 := fun e2 => this (List.length_eq_zero_iff.1 e2)
      omega
end Go.Proofs.Ytonfmnohmigjpaa.P
/- The longest text that is a token is the first token. -/
namespace Go.Proofs.Ytonfmnohmigjpaa.P
open Go.RowKit Go.Proofs.YtonfmnohmigjpaaW.PrintWords Go.Proofs.YtonfmnohmigjpaaW.PrintLast
theorem litF_q {q : UInt8} {x : List UInt8} (h : 0 < litF q x) : x.headD 0 = q := by
  cases x with
  | nil => simp [litF] at h
  | cons c r =>
    by_cases e : c = q
    · exact e
    · rw [litF_first e] at h; omega
theorem isLit_none (q : UInt8) (t : List UInt8) : ∀ ps, (∀ p ∈ ps, litP q p t = false) → isLitT q t ps = false := by
  intro ps
  induction ps with
  | nil => intro _; rfl
  | cons p ps ih =>
    intro h
    rw [isLitT, h p List.mem_cons_self, if_neg (by decide)]
    exact ih (fun p' hp => h p' (List.mem_cons_of_mem _ hp))
/-- One prefix alone fits. -/
theorem isLit_one (q : UInt8) (t : List UInt8) (p : List UInt8) : ∀ ps, p ∈ ps → litP q p t = true → (∀ p' ∈ ps, litP q p' t = true → p' = p) → isLitT q t ps = (q == 34 || decide (t.length > p.length + 2)) := by
  intro ps
  induction ps with
  | nil => intro h; simp at h
  | cons p0 ps ih =>
    intro hp h hu
    rw [isLitT]
    cases h0 : litP q p0 t with
    | true => rw [if_pos rfl, hu p0 List.mem_cons_self h0]
    | false =>
      rw [if_neg (by decide)]
      have : p ∈ ps := by
        rcases List.mem_cons.1 hp with rfl | h1
        · rw [h] at h0; exact absurd h0 (by decide)
        · exact h1
      exact ih this h (fun p' h1 h2 => hu p' (List.mem_cons_of_mem _ h1) h2)
theorem litP_at {q : UInt8} {p t : List UInt8} (h : litP q p t = true) : t.take p.length = p ∧ t.getD p.length 0 = q ∧ p.length + 2 ≤ t.length := by
  unfold litP at h
  simp only [Bool.and_eq_true, decide_eq_true_eq, beq_iff_eq] at h
  exact ⟨h.1.1.1.2, h.1.1.2, h.1.1.1.1⟩
theorem litP_uniq {q : UInt8} {p p' t : List UInt8} (hq : q = 34 ∨ q = 39) (hp : pfx p) (hp' : pfx p') (h : litP q p t = true) (h' : litP q p' t = true) : p = p' := by
  have key : ∀ {p p' : List UInt8}, pfx p → pfx p' → litP q p t = true → litP q p' t = true → ¬ p.length < p'.length := by
    intro p p' hp hp' h h' hlt
    obtain ⟨g1, g2, g3⟩ := litP_at h
    obtain ⟨k1, k2, k3⟩ := litP_at h'
    have hm : t.getD p.length 0 ∈ p' := by
      rw [← k1, List.getD_eq_getElem?_getD, List.getElem?_eq_getElem (by omega), Option.getD_some, List.mem_take_iff_getElem]
      exact ⟨p.length, by omega, rfl⟩
    have := pfx_no hp' _ hm
    rw [g2] at this
    rcases hq with rfl | rfl
    · exact this.1 rfl
    · exact this.2.1 rfl
  have e : p.length = p'.length := Nat.le_antisymm (Nat.not_lt.1 (key hp' hp h' h)) (Nat.not_lt.1 (key hp hp' h h'))
  rw [← (litP_at h).1, ← (litP_at h').1, e]
theorem pre3_pfx {p : List UInt8} (h : p ∈ pre3) : pfx p ∧ p ≠ [117, 56] := by
  simp only [pre3, List.mem_cons, List.not_mem_nil, or_false] at h
  rcases h with rfl | rfl | rfl | rfl
  · exact ⟨.inr (.inr (.inr (.inr rfl))), by decide⟩
  · exact ⟨.inr (.inl rfl), by decide⟩
  · exact ⟨.inr (.inr (.inl rfl)), by decide⟩
  · exact ⟨.inr (.inr (.inr (.inl rfl))), by decide⟩
theorem pfx_pre3 {p : List UInt8} (h : pfx p) (h2 : p ≠ [117, 56]) : p ∈ pre3 := by
  simp only [pre3, List.mem_cons, List.not_mem_nil, or_false]
  rcases h with rfl | rfl | rfl | rfl | rfl
  · exact absurd rfl h2
  · exact .inr (.inl rfl)
  · exact .inr (.inr (.inl rfl))
  · exact .inr (.inr (.inr rfl))
  · exact .inl rfl
theorem pre4_pfx {p : List UInt8} : p ∈ pre4 ↔ pfx p := by
  simp only [pre4, pfx, List.mem_cons, List.not_mem_nil, or_false]
  constructor
  · rintro (h | h | h | h | h) <;> simp [h]
  · rintro (h | h | h | h | h) <;> simp [h]
theorem isLit4_iff (l : List UInt8) (n : Nat) (hn : n ≤ l.length) : isLitT 34 (l.take n) pre4 = true ↔ 0 < n ∧ quoF l = (4, n) := by
  constructor
  · intro h
    by_cases hx : ∃ p ∈ pre4, litP 34 p (l.take n) = true
    · obtain ⟨p, hp, h1⟩ := hx
      obtain ⟨g1, g2, g3⟩ := (litP_iff 34 p l n hn).1 ⟨h1, fun e => absurd e (by decide)⟩
      have h2 : quoP p l = some (4, n) := by unfold quoP; rw [if_pos g1, if_pos g2, ← g3]
      exact ⟨by omega, quoF_of (pre4_pfx.1 hp) h2⟩
    · rw [isLit_none 34 _ pre4 (fun p hp => by
        cases h1 : litP 34 p (l.take n) with
        | false => rfl
        | true => exact absurd ⟨p, hp, h1⟩ hx)] at h
      exact absurd h (by decide)
  · rintro ⟨h0, h⟩
    obtain ⟨p, hp, h1⟩ := quoF_some (l := l) (by rw [h]; exact h0)
    rw [h] at h1
    unfold quoP at h1
    split at h1
    · rename_i hb
      split at h1
      · rename_i h2
        have h3 := Option.some.inj h1
        obtain ⟨g1, _⟩ := (litP_iff 34 p l n hn).2 ⟨hb, h2, (Prod.mk.inj h3).2.symm⟩
        rw [isLit_one 34 _ p pre4 (pre4_pfx.2 hp) g1 (fun p' hp' h' => litP_uniq (.inl rfl) (pre4_pfx.1 hp') hp h' g1)]; rfl
      · split at h1
        · have := (Prod.mk.inj (Option.some.inj h1)).1; omega
        · simp at h1
    · simp at h1
theorem isLit3_iff (l : List UInt8) (n : Nat) (hn : n ≤ l.length) : isLitT 39 (l.take n) pre3 = true ↔ 0 < n ∧ quoF l = (3, n) := by
  have hlen : (l.take n).length = n := by rw [List.length_take]; omega
  constructor
  · intro h
    by_cases hx : ∃ p ∈ pre3, litP 39 p (l.take n) = true
    · obtain ⟨p, hp, h1⟩ := hx
      rw [isLit_one 39 _ p pre3 hp h1 (fun p' hp' h' => litP_uniq (.inr rfl) (pre3_pfx hp').1 (pre3_pfx hp).1 h' h1), hlen] at h
      have h2 : n > p.length + 2 := by simpa using h
      obtain ⟨g1, g2, g3⟩ := (litP_iff 39 p l n hn).1 ⟨h1, fun _ => h2⟩
      have h34 : litF 34 (l.drop p.length) = 0 := by
        rcases Nat.eq_zero_or_pos (litF 34 (l.drop p.length)) with e | e
        · exact e
        · have a1 := litF_q e
          have a2 := litF_q g2
          rw [a1] at a2
          exact absurd a2 (by decide)
      have h3 : quoP p l = some (3, n) := by unfold quoP; rw [if_pos g1, h34, if_neg (by omega), if_pos ⟨g2, (pre3_pfx hp).2⟩, ← g3]
      exact ⟨by omega, quoF_of (pre3_pfx hp).1 h3⟩
    · rw [isLit_none 39 _ pre3 (fun p hp => by
        cases h1 : litP 39 p (l.take n) with
        | false => rfl
        | true => exact absurd ⟨p, hp, h1⟩ hx)] at h
      exact absurd h (by decide)
  · rintro ⟨h0, h⟩
    obtain ⟨p, hp, h1⟩ := quoF_some (l := l) (by rw [h]; exact h0)
    rw [h] at h1
    unfold quoP at h1
    split at h1
    · rename_i hb
      split at h1
      · have := (Prod.mk.inj (Option.some.inj h1)).1; omega
      · split at h1
        · rename_i h2
          have h3 := Option.some.inj h1
          obtain ⟨g1, g2⟩ := (litP_iff 39 p l n hn).2 ⟨hb, h2.1, (Prod.mk.inj h3).2.symm⟩
          rw [isLit_one 39 _ p pre3 (pfx_pre3 hp h2.2) g1 (fun p' hp' h' => litP_uniq (.inr rfl) (pre3_pfx hp').1 hp h' g1), hlen]
          simpa using g2 rfl
        · simp at h1
    · simp at h1
theorem isPct_len (t : List UInt8) (h : isPct t = true) : 1 ≤ t.length ∧ t.length ≤ 4 := by
  have : pcts.all (fun t => decide (1 ≤ t.length) && decide (t.length ≤ 4)) = true := by decide +kernel
  have := List.all_eq_true.1 this t (pct_mem t h)
  simpa using this
theorem isPct_le (l : List UInt8) (n : Nat) (hn : n ≤ l.length) (h : isPct (l.take n) = true) : n ≤ punctF l := by
  have hlen : (l.take n).length = n := by rw [List.length_take]; omega
  have hb := isPct_len _ h
  rw [hlen] at hb
  have hp : pctN l n = true := by unfold pctN; rw [decide_eq_true hn, h]; rfl
  unfold punctF
  rcases (show n = 1 ∨ n = 2 ∨ n = 3 ∨ n = 4 by omega) with rfl | rfl | rfl | rfl
  · split
    · omega
    · split
      · omega
      · split
        · omega
        · first | omega | (rw [if_pos hp]; omega)
  · split
    · omega
    · split
      · omega
      · first | omega | (rw [if_pos hp]; omega)
  · split
    · omega
    · first | omega | (rw [if_pos hp]; omega)
  · rw [if_pos hp]; omega
/-- The kind of a beginning of what is left. -/
theorem no_quote (l : List UInt8) (j : Nat) (m : Nat) (hm : m ≤ l.length) (hq : l.getD j 0 = 34 ∨ l.getD j 0 = 39) (h : ∀ c ∈ l.take m, c ≠ 34 ∧ c ≠ 39) : m ≤ j := by
  rcases Nat.lt_or_ge j m with h1 | h1
  · exfalso
    have hin : l.getD j 0 ∈ l.take m := by
      rw [List.getD_eq_getElem?_getD, List.getElem?_eq_getElem (by omega), Option.getD_some, List.mem_take_iff_getElem]
      exact ⟨j, by omega, rfl⟩
    have := h _ hin
    rcases hq with h2 | h2
    · exact this.1 h2
    · exact this.2 h2
  · exact h1
/-- The first four kinds, and how many bytes. -/
def fourG (q : Nat × Nat) (wd nm pc : Nat) : Int × Nat :=
  if 0 < q.2 then ((q.1 : Int), q.2) else if 0 < wd then (1, wd) else if 0 < nm then (2, nm) else if 0 < pc then (5, pc) else (0, 0)
def fourF (l : List UInt8) : Int × Nat := fourG (quoF l) (wordF l) (numF l) (punctF l)
theorem word_first {l : List UInt8} (h : 0 < wordF l) : ltrU (l.headD 0) = true := by
  cases l with
  | nil => simp [wordF] at h
  | cons c r =>
    rw [wordF] at h
    split at h
    · rename_i e; exact e
    · omega
theorem num_first {l : List UInt8} (h : 0 < numF l) : dgtU (l.headD 0) = true ∨ (l.headD 0 = 46 ∧ dgtU (l.getD 1 0) = true) := by
  match l, h with
  | [], h => simp [numF] at h
  | [a], h =>
    rw [numF] at h
    split at h
    · rename_i e; exact .inl e
    · omega
  | a :: b :: r, h =>
    rw [numF] at h
    split at h
    · rename_i e; exact .inl e
    · split at h
      · rename_i e; rw [Bool.and_eq_true, beq_iff_eq] at e; exact .inr e
      · omega
theorem ld_no : ∀ n : Fin 256, (ltrU n.1.toUInt8 && (dgtU n.1.toUInt8 || n.1.toUInt8 == 46)) = false := by decide +kernel
theorem pct_first : pcts.all (fun t => !(ltrU (t.headD 0)) && !(dgtU (t.headD 0)) && !(t.headD 0 == 46 && dgtU (t.getD 1 0)) && !(t == [10])) = true := by decide +kernel
theorem pct_head {l : List UInt8} (h : 0 < punctF l) : ltrU (l.headD 0) = false ∧ dgtU (l.headD 0) = false := by
  have h1 := List.all_eq_true.1 pct_first _ (pct_mem _ (punctF_pct l h))
  simp only [Bool.and_eq_true, Bool.not_eq_true'] at h1
  have : (l.take (punctF l)).headD 0 = l.headD 0 := by
    obtain ⟨m, hm⟩ : ∃ m, punctF l = m + 1 := ⟨punctF l - 1, by omega⟩
    rw [hm]; cases l <;> rfl
  rw [this] at h1
  exact ⟨h1.1.1.1, h1.1.1.2⟩
theorem pct_dot {l : List UInt8} (h : l.headD 0 = 46) (hd : dgtU (l.getD 1 0) = true) : punctF l ≤ 1 := by
  rcases Nat.lt_or_ge 1 (punctF l) with h2 | h2
  · exfalso
    have hm := pct_mem _ (punctF_pct l (by omega))
    have h3 := List.all_eq_true.1 pct_first _ hm
    simp only [Bool.and_eq_true, Bool.not_eq_true'] at h3
    have e1 : (l.take (punctF l)).headD 0 = l.headD 0 := by
      obtain ⟨m, hm⟩ : ∃ m, punctF l = m + 1 := ⟨punctF l - 1, by omega⟩
      rw [hm]; cases l <;> rfl
    have e2 : (l.take (punctF l)).getD 1 0 = l.getD 1 0 := by
      rw [List.getD_eq_getElem?_getD, List.getElem?_take, if_pos h2, List.getD_eq_getElem?_getD]
    rw [e1, e2, h, hd] at h3
    exact absurd h3.1.2 (by decide)
  · exact h2
theorem kindT_of (l : List UInt8) (h10 : l.headD 0 ≠ 10) (n : Nat) (hn : n ≤ l.length) :
    (fourF l).2 ≤ l.length ∧ ((fourF l).2 < n → kindT (l.take n) = 0) ∧ (0 < (fourF l).2 → n = (fourF l).2 → kindT (l.take n) = (fourF l).1 ∧ 0 < (fourF l).1) := by
  have q0 := quoF_le l
  have w0 := wordF_le l
  have n0 := numF_le l
  have p0 := punctF_le l
  -- what is ahead of which
  have hq : 0 < (quoF l).2 → wordF l < (quoF l).2 ∧ numF l < (quoF l).2 ∧ punctF l < (quoF l).2 := by
    intro h
    obtain ⟨p, hp, h1⟩ := quoF_some h
    obtain ⟨g1, g2, g3, g4⟩ := quoP_at h1
    rw [head_at] at g3
    exact ⟨Nat.lt_of_le_of_lt (no_quote l p.length _ w0 g3 (wordF_bytes l)) g1, Nat.lt_of_le_of_lt (no_quote l p.length _ n0 g3 (numF_bytes l)) g1, Nat.lt_of_le_of_lt (no_quote l p.length _ p0 g3 (punctF_bytes l)) g1⟩
  have hw : 0 < wordF l → numF l = 0 ∧ punctF l = 0 := by
    intro h
    have h1 := word_first h
    refine ⟨?_, ?_⟩
    · rcases Nat.eq_zero_or_pos (numF l) with e | e
      · exact e
      · exfalso
        have := ld_no ⟨(l.headD 0).toNat, (l.headD 0).toNat_lt⟩
        rw [u8_fin, h1] at this
        rcases num_first e with h2 | h2
        · rw [h2] at this; simp at this
        · rw [h2.1] at this; exact absurd this (by decide)
    · rcases Nat.eq_zero_or_pos (punctF l) with e | e
      · exact e
      · have := (pct_head e).1; rw [h1] at this; exact absurd this (by decide)
  have hnm : 0 < numF l → punctF l ≤ numF l := by
    intro h
    rcases num_first h with h2 | h2
    · rcases Nat.eq_zero_or_pos (punctF l) with e | e
      · omega
      · have := (pct_head e).2; rw [h2] at this; exact absurd this (by decide)
    · have := pct_dot h2.1 h2.2; omega
  -- kindT at n
  have hk : kindT (l.take n) = if 0 < n ∧ n ≤ wordF l then 1 else if isNumT (l.take n) then 2 else if 0 < n ∧ quoF l = (3, n) then 3 else if 0 < n ∧ quoF l = (4, n) then 4 else if isPct (l.take n) then 5 else 0 := by
    unfold kindT
    have e10 : l.take n ≠ [10] := by
      intro e
      apply h10
      cases n with
      | zero => simp at e
      | succ n => cases l with
        | nil => simp at e
        | cons c r => exact (List.cons.inj e).1
    rw [if_neg e10]
    simp only [isWord_iff l n hn, isLit3_iff l n hn, isLit4_iff l n hn]
  have hzero : ∀ m, (quoF l).2 < m → wordF l < m → numF l < m → punctF l < m → m = n → kindT (l.take n) = 0 := by
    rintro m h1 h2 h3 h4 rfl
    rw [hk, if_neg (by omega), if_neg (fun h => by have := isNum_le l m hn h; omega), if_neg (fun h => by rw [h.2] at h1; simp at h1), if_neg (fun h => by rw [h.2] at h1; simp at h1), if_neg (fun h => by have := isPct_le l m hn h; omega)]
  unfold fourF fourG
  by_cases h1 : 0 < (quoF l).2
  · obtain ⟨a1, a2, a3⟩ := hq h1
    rw [if_pos h1]
    refine ⟨q0, fun h => hzero n h (by have : (quoF l).2 < n := h; omega) (by have : (quoF l).2 < n := h; omega) (by have : (quoF l).2 < n := h; omega) rfl, fun _ e => ?_⟩
    have e : n = (quoF l).2 := e
    obtain ⟨p, hp, h2⟩ := quoF_some h1
    have hkind := (quoP_le p l _ h2).2.2
    rw [hk, if_neg (by omega), if_neg (fun h => by have := isNum_le l n hn h; omega)]
    obtain ⟨⟨k, m⟩, hkm⟩ : ∃ r, quoF l = r := ⟨_, rfl⟩
    rw [hkm] at hkind e
    rw [hkm]
    simp only at hkind e ⊢
    subst e
    rcases hkind with rfl | rfl
    · rw [if_neg (fun h => by simp at h), if_pos ⟨by rw [hkm] at h1; exact h1, rfl⟩]; exact ⟨rfl, by show (0 : Int) < _; first | omega | (simp only; omega)⟩
    · rw [if_pos ⟨by rw [hkm] at h1; exact h1, rfl⟩]; exact ⟨rfl, by show (0 : Int) < _; first | omega | (simp only; omega)⟩
  · rw [if_neg h1]
    have hq3 : ¬ (0 < n ∧ quoF l = (3, n)) := fun h => by rw [h.2] at h1; exact h1 h.1
    have hq4 : ¬ (0 < n ∧ quoF l = (4, n)) := fun h => by rw [h.2] at h1; exact h1 h.1
    by_cases h2 : 0 < wordF l
    · obtain ⟨a1, a2⟩ := hw h2
      rw [if_pos h2]
      refine ⟨w0, fun h => hzero n (by have : wordF l < n := h; omega) h (by have : wordF l < n := h; omega) (by have : wordF l < n := h; omega) rfl, fun _ e => ?_⟩
      have e : n = wordF l := e
      rw [hk, if_pos (by omega)]; exact ⟨rfl, by show (0 : Int) < _; first | omega | (simp only; omega)⟩
    · rw [if_neg h2]
      by_cases h3 : 0 < numF l
      · have a1 := hnm h3
        rw [if_pos h3]
        refine ⟨n0, fun h => hzero n (by have : numF l < n := h; omega) (by have : numF l < n := h; omega) h (by have : numF l < n := h; omega) rfl, fun _ e => ?_⟩
        have e : n = numF l := e
        subst e
        rw [hk, if_neg (by omega), if_pos (isNum_own l h3)]; exact ⟨rfl, by show (0 : Int) < _; first | omega | (simp only; omega)⟩
      · rw [if_neg h3]
        by_cases h4 : 0 < punctF l
        · rw [if_pos h4]
          refine ⟨p0, fun h => hzero n (by have : punctF l < n := h; omega) (by have : punctF l < n := h; omega) (by have : punctF l < n := h; omega) h rfl, fun _ e => ?_⟩
          have e : n = punctF l := e
          subst e
          rw [hk, if_neg (by omega), if_neg (fun h => by have := isNum_le l _ hn h; omega), if_neg hq3, if_neg hq4, if_pos (punctF_pct l h4)]; exact ⟨rfl, by show (0 : Int) < _; first | omega | (simp only; omega)⟩
        · rw [if_neg h4]
          refine ⟨Nat.zero_le _, fun h => hzero n (by omega) (by omega) (by omega) (by omega) rfl, fun h => absurd h (by decide)⟩
end Go.Proofs.Ytonfmnohmigjpaa.P
/- The reference's words, numbers, literals, punctuators (regletref02) over plain lists. -/
namespace Go.Proofs.Ytonfmnohmigjpaa.P
open Go.RowKit Go.Proofs.YtonfmnohmigjpaaW.PrintWords Go.Proofs.YtonfmnohmigjpaaW.PrintLast

theorem rletter_all : ∀ n : Fin 256, regletref02_letter.f (n.1 : Int) = some (ltrU n.1.toUInt8) := by decide +kernel
theorem rdigit_all : ∀ n : Fin 256, regletref02_digit.f (n.1 : Int) = some (dgtU n.1.toUInt8) := by decide +kernel
theorem rsign_all : ∀ n : Fin 256, regletref02_sign.f (n.1 : Int) = some (sgnU n.1.toUInt8) := by decide +kernel
theorem rexpo_all : ∀ n : Fin 256, regletref02_expo.f (n.1 : Int) = some (expU n.1.toUInt8) := by decide +kernel
theorem rletter_f (c : UInt8) : regletref02_letter.f (c.toNat : Int) = some (ltrU c) := by
  have := rletter_all ⟨c.toNat, c.toNat_lt⟩; rw [u8_fin] at this; exact this
theorem rdigit_f (c : UInt8) : regletref02_digit.f (c.toNat : Int) = some (dgtU c) := by
  have := rdigit_all ⟨c.toNat, c.toNat_lt⟩; rw [u8_fin] at this; exact this
theorem rsign_f (c : UInt8) : regletref02_sign.f (c.toNat : Int) = some (sgnU c) := by
  have := rsign_all ⟨c.toNat, c.toNat_lt⟩; rw [u8_fin] at this; exact this
theorem rexpo_f (c : UInt8) : regletref02_expo.f (c.toNat : Int) = some (expU c) := by
  have := rexpo_all ⟨c.toNat, c.toNat_lt⟩; rw [u8_fin] at this; exact this
/-! words -/
theorem rword_l (s : ByteArray) (hs : s.size ≤ 140737488351232) : ∀ (d i : Nat), 1 ≤ i → s.size - i ≤ d → i ≤ s.size → Ev (fun k => regletref02_IsWord.l0 k s (i : Int)) (((L s).drop i).all (fun d => ltrU d || dgtU d)) := by
  intro d
  have fin : ∀ i, 1 ≤ i → i ≤ s.size → ¬ i < s.size → Ev (fun k => regletref02_IsWord.l0 k s (i : Int)) (((L s).drop i).all (fun d => ltrU d || dgtU d)) := by
    intro i h0 h1 h
    have e1 : ¬ (i : Int) < (s.size : Int) := by omega
    have e2 : (s.size : Int) > 0 := by omega
    refine Ev.done1 fun k => ?_
    rw [regletref02_IsWord.l0, if_neg e1, nil_drop s i h, decide_eq_true e2]; rfl
  induction d with
  | zero => exact fun i h0 h h1 => fin i h0 h1 (by omega)
  | succ d ih =>
    intro i h0 hd h1
    by_cases hi : i < s.size
    · have e1 : (i : Int) < (s.size : Int) := by omega
      have e2 : (0 : Int) ≤ (i : Int) := by omega
      have e3 : ¬ (i : Int) = 0 := by omega
      have hw := w64_1 s hs i 1 (by omega) (by omega)
      rw [drop_at s i hi, List.all_cons]
      cases hl : ltrU (at_ s i) with
      | true =>
        rw [Bool.true_or, Bool.true_and]
        refine Ev.steps1 (fun k => ?_) (ih (i + 1) (by omega) (by omega) (by omega))
        rw [regletref02_IsWord.l0, if_pos e1, if_pos e2, btA, rletter_f, Option.bind_some, hl, if_pos rfl]; exact congrArg _ hw
      | false =>
        rw [Bool.false_or]
        cases hg : dgtU (at_ s i) with
        | true =>
          rw [Bool.true_and]
          refine Ev.steps1 (fun k => ?_) (ih (i + 1) (by omega) (by omega) (by omega))
          rw [regletref02_IsWord.l0, if_pos e1, if_pos e2, btA, rletter_f, Option.bind_some, hl, if_neg (by decide), if_neg e3, rdigit_f, Option.bind_some, hg, if_pos rfl]; exact congrArg _ hw
        | false =>
          rw [Bool.false_and]
          refine Ev.done1 fun k => ?_
          rw [regletref02_IsWord.l0, if_pos e1, if_pos e2, btA, rletter_f, Option.bind_some, hl, if_neg (by decide), if_neg e3, rdigit_f, Option.bind_some, hg, if_neg (by decide)]
    · exact fin i h0 h1 hi
theorem rword_f (s : ByteArray) (hs : s.size ≤ 140737488351232) : Ev (fun k => regletref02_IsWord.f k s) (isWordT (L s)) := by
  unfold regletref02_IsWord.f
  by_cases hi : 0 < s.size
  · have e1 : (0 : Int) < (s.size : Int) := by omega
    have hD := drop_at s 0 hi
    rw [List.drop_zero] at hD
    rw [hD, isWordT]
    have hb : bt s 0 = ((at_ s 0).toNat : Int) := btA s 0
    cases hl : ltrU (at_ s 0) with
    | true =>
      rw [Bool.true_and]
      refine Ev.steps1 (f := fun k => regletref02_IsWord.l0 k s ((1 : Nat) : Int)) (fun k => ?_) (rword_l s hs _ 1 (Nat.le_refl _) (Nat.le_refl _) (by omega))
      rw [regletref02_IsWord.l0, if_pos e1, if_pos (by decide), hb, rletter_f, Option.bind_some, hl, if_pos rfl, show wrap64 (0 + 1) = ((1 : Nat) : Int) by unfold wrap64; omega]
    | false =>
      rw [Bool.false_and]
      refine Ev.done1 fun k => ?_
      rw [regletref02_IsWord.l0, if_pos e1, if_pos (by decide), hb, rletter_f, Option.bind_some, hl, if_neg (by decide), if_pos rfl]
  · have e1 : ¬ (0 : Int) < (s.size : Int) := by omega
    have e2 : ¬ (s.size : Int) > 0 := by omega
    have : L s = [] := List.eq_nil_of_length_eq_zero (by rw [L_length]; omega)
    rw [this]
    refine Ev.done1 fun k => ?_
    rw [regletref02_IsWord.l0, if_neg e1, decide_eq_false e2]; rfl
/-! numbers -/
theorem ext0 (s : ByteArray) (n : Nat) : L (s.extract 0 n) = (L s).take n := by rw [L_extract, List.drop_zero, Nat.sub_zero]
theorem size_ext0 (s : ByteArray) (n : Nat) (h : n ≤ s.size) : (s.extract 0 n).size = n := by rw [← L_length, ext0, List.length_take, L_length]; omega
theorem rev_last (s : ByteArray) (n : Nat) (h : s.size = n + 1) : (L s).reverse = at_ s n :: ((L s).take n).reverse := by
  have h1 : L s = (L s).take n ++ [at_ s n] := by
    conv => lhs; rw [← List.take_append_drop n (L s)]
    rw [drop_at s n (by omega), nil_drop s (n + 1) (by omega)]
  conv => lhs; rw [h1]
  rw [List.reverse_append]; rfl
theorem rev_take (s : ByteArray) (n : Nat) (h : n < s.size) : ((L s).take (n + 1)).reverse = at_ s n :: ((L s).take n).reverse := by
  have := rev_last (s.extract 0 (n + 1)) n (size_ext0 s _ (by omega))
  rw [ext0, List.take_take, Nat.min_eq_left (by omega)] at this
  rw [this]
  congr 1
  unfold at_
  rw [ext0, List.getD_eq_getElem?_getD, List.getElem?_take, if_pos (by omega), List.getD_eq_getElem?_getD]
theorem w64m (n k : Nat) (h : k ≤ n) (hn : n ≤ 140737488351232) : wrap64 ((n : Int) - (k : Int)) = ((n - k : Nat) : Int) := by unfold wrap64; omega
theorem rnum_f : ∀ (n : Nat) (s : ByteArray), s.size = n → n ≤ 140737488351232 → Ev (fun k => regletref02_IsNumber.f k s) (isNumT (L s)) := by
  intro n
  induction n using Nat.strongRecOn with
  | _ n ih =>
    intro s hn hb
    unfold isNumT
    match n, hn, hb, ih with
    | 0, hn, _, _ =>
      have e1 : (s.size : Int) = 0 := by omega
      have : L s = [] := List.eq_nil_of_length_eq_zero (by rw [L_length]; omega)
      rw [this]
      refine Ev.done1 fun k => ?_
      rw [regletref02_IsNumber.f, if_pos e1]; rfl
    | 1, hn, _, _ =>
      have e1 : ¬ (s.size : Int) = 0 := by omega
      have e2 : (s.size : Int) = 1 := by omega
      have e3 : (0 : Int) < (s.size : Int) := by omega
      have hb : bt s 0 = ((at_ s 0).toNat : Int) := btA s 0
      rw [rev_last s 0 hn, List.take_zero]
      refine Ev.done1 fun k => ?_
      rw [regletref02_IsNumber.f, if_neg e1, if_pos e2, if_pos e3, hb, rdigit_f]; rfl
    | 2, hn, hbd, ih =>
      have e1 : ¬ (s.size : Int) = 0 := by omega
      have e2 : ¬ (s.size : Int) = 1 := by omega
      have e3 : (s.size : Int) = 2 := by omega
      have e4 : (0 : Int) < (s.size : Int) := by omega
      have e5 : (1 : Int) < (s.size : Int) := by omega
      have e6 : wrap64 ((s.size : Int) - 1) = 1 := by rw [e3]; unfold wrap64; omega
      have e7 : ¬ (s.size : Int) > 2 := by omega
      have hb0 : bt s 0 = ((at_ s 0).toNat : Int) := btA s 0
      have hb1 : bt s 1 = ((at_ s 1).toNat : Int) := btA s 1
      rw [rev_last s 1 hn, rev_take s 0 (by omega), List.take_zero, List.reverse_nil]
      refine Ev.steps1 (f := fun k => regletref02_IsNumber.j0 k s (s.size : Int) (bt s 0 == 46)) (fun k => by rw [regletref02_IsNumber.f, if_neg e1, if_neg e2, if_pos e3, if_pos e4]) ?_
      rw [numRev]
      by_cases c46 : at_ s 0 = 46
      · rw [if_pos c46]
        have : (bt s 0 == 46) = true := by rw [hb0, c46]; rfl
        rw [this]
        refine Ev.done1 fun k => ?_
        rw [regletref02_IsNumber.j0, if_pos rfl, if_pos e5, hb1, rdigit_f]; rfl
      · rw [if_neg c46]
        have : (bt s 0 == 46) = false := by
          rw [hb0, beq_eq_false_iff_ne]
          exact fun e => c46 ((u8_eq _ 46 46 rfl (by omega)).1 e)
        rw [this]
        have ih1 := ih 1 (by omega) (s.extract 0 1) (size_ext0 s 1 (by omega)) (by omega)
        rw [ext0] at ih1
        have h1 : isNumT ((L s).take 1) = dgtU (at_ s 0) := by
          unfold isNumT
          rw [rev_take s 0 (by omega), List.take_zero]; rfl
        rw [h1] at ih1
        have tail : Ev (fun k => (regletref02_IsNumber.f k (s.extract 0 ((1 : Int)).toNat)).bind fun t => some t) (dgtU (at_ s 0)) := Ev.bind ih1 (Ev.now _)
        have e8 : (1 : Int) ≤ (s.size : Int) := by omega
        cases hs : sgnU (at_ s 1) with
        | true =>
          rw [if_pos rfl]
          refine Ev.done1 fun k => ?_
          rw [regletref02_IsNumber.j0, if_neg (by decide), e6, if_pos (by decide), if_pos e5, hb1, rsign_f, Option.bind_some, hs, if_pos rfl, if_neg e7]
        | false =>
          rw [if_neg (by decide)]
          cases hd : dgtU (at_ s 1) with
          | true =>
            rw [Bool.true_or, Bool.true_or, Bool.true_and]
            refine Ev.steps1 (fun k => ?_) tail
            rw [regletref02_IsNumber.j0, if_neg (by decide), e6, if_pos (by decide), if_pos e5, hb1, rsign_f, Option.bind_some, hs, if_neg (by decide), rdigit_f, Option.bind_some, hd, if_pos rfl, if_pos e8]
          | false =>
            cases hl : ltrU (at_ s 1) with
            | true =>
              rw [Bool.or_true, Bool.true_or, Bool.true_and]
              refine Ev.steps1 (fun k => ?_) tail
              rw [regletref02_IsNumber.j0, if_neg (by decide), e6, if_pos (by decide), if_pos e5, hb1, rsign_f, Option.bind_some, hs, if_neg (by decide), rdigit_f, Option.bind_some, hd, if_neg (by decide), rletter_f, Option.bind_some, hl, if_pos rfl, if_pos e8]
            | false =>
              rw [Bool.or_self, Bool.false_or]
              by_cases c : at_ s 1 = 46
              · have c' : ((at_ s 1).toNat : Int) = 46 := (u8_eq _ 46 46 rfl (by omega)).2 c
                rw [c, beq_self_eq_true, Bool.true_and]
                refine Ev.steps1 (fun k => ?_) tail
                rw [regletref02_IsNumber.j0, if_neg (by decide), e6, if_pos (by decide), if_pos e5, hb1, rsign_f, Option.bind_some, hs, if_neg (by decide), rdigit_f, Option.bind_some, hd, if_neg (by decide), rletter_f, Option.bind_some, hl, if_neg (by decide), if_pos c', if_pos e8]
              · have c' : ¬ ((at_ s 1).toNat : Int) = 46 := fun e => c ((u8_eq _ 46 46 rfl (by omega)).1 e)
                rw [beq_eq_false_iff_ne.2 c, Bool.false_and]
                refine Ev.done1 fun k => ?_
                rw [regletref02_IsNumber.j0, if_neg (by decide), e6, if_pos (by decide), if_pos e5, hb1, rsign_f, Option.bind_some, hs, if_neg (by decide), rdigit_f, Option.bind_some, hd, if_neg (by decide), rletter_f, Option.bind_some, hl, if_neg (by decide), if_neg c']
    | n + 3, hn, hbd, ih =>
      have e1 : ¬ (s.size : Int) = 0 := by omega
      have e2 : ¬ (s.size : Int) = 1 := by omega
      have e3 : ¬ (s.size : Int) = 2 := by omega
      have e6 : wrap64 ((s.size : Int) - 1) = ((n + 2 : Nat) : Int) := by have := w64m s.size 1 (by omega) (by omega); rw [show s.size - 1 = n + 2 by omega] at this; exact this
      have e6' : wrap64 ((s.size : Int) - 2) = ((n + 1 : Nat) : Int) := by have := w64m s.size 2 (by omega) (by omega); rw [show s.size - 2 = n + 1 by omega] at this; exact this
      have e7 : (s.size : Int) > 2 := by omega
      have e8 : (0 : Int) ≤ ((n + 2 : Nat) : Int) := by omega
      have e9 : ((n + 2 : Nat) : Int) < (s.size : Int) := by omega
      have e8' : (0 : Int) ≤ ((n + 1 : Nat) : Int) := by omega
      have e9' : ((n + 1 : Nat) : Int) < (s.size : Int) := by omega
      have e10 : ((n + 2 : Nat) : Int) ≤ (s.size : Int) := by omega
      have e10' : ((n + 1 : Nat) : Int) ≤ (s.size : Int) := by omega
      have ih1 := ih (n + 2) (by omega) (s.extract 0 (n + 2)) (size_ext0 s _ (by omega)) (by omega)
      have ih2 := ih (n + 1) (by omega) (s.extract 0 (n + 1)) (size_ext0 s _ (by omega)) (by omega)
      rw [ext0] at ih1 ih2
      unfold isNumT at ih1 ih2
      rw [rev_last s (n + 2) hn]
      rw [rev_take s (n + 1) (by omega), rev_take s n (by omega)] at ih1
      rw [rev_take s (n + 1) (by omega), rev_take s n (by omega), numRev]
      rw [rev_take s n (by omega)] at ih2
      have t1 : Ev (fun k => (regletref02_IsNumber.f k (s.extract 0 (((n + 2 : Nat) : Int)).toNat)).bind fun t => some t) _ := Ev.bind (by rw [Int.toNat_natCast]; exact ih1) (Ev.now _)
      have t2 : Ev (fun k => (regletref02_IsNumber.f k (s.extract 0 (((n + 1 : Nat) : Int)).toNat)).bind fun t => some t) _ := Ev.bind (by rw [Int.toNat_natCast]; exact ih2) (Ev.now _)
      refine Ev.steps1 (f := fun k => regletref02_IsNumber.j0 k s (s.size : Int) false) (fun k => by rw [regletref02_IsNumber.f, if_neg e1, if_neg e2, if_neg e3]) ?_
      cases hs : sgnU (at_ s (n + 2)) with
      | true =>
        rw [if_pos rfl]
        cases hx : expU (at_ s (n + 1)) with
        | true =>
          rw [Bool.true_and]
          refine Ev.steps1 (fun k => ?_) t2
          rw [regletref02_IsNumber.j0, if_neg (by decide), e6, if_pos e8, if_pos e9, btA, rsign_f, Option.bind_some, hs, if_pos rfl, if_pos e7, e6', if_pos e8', if_pos e9', btA, rexpo_f, Option.bind_some, hx, if_pos rfl, if_pos e10']
        | false =>
          rw [Bool.false_and]
          refine Ev.done1 fun k => ?_
          rw [regletref02_IsNumber.j0, if_neg (by decide), e6, if_pos e8, if_pos e9, btA, rsign_f, Option.bind_some, hs, if_pos rfl, if_pos e7, e6', if_pos e8', if_pos e9', btA, rexpo_f, Option.bind_some, hx, if_neg (by decide)]
      | false =>
        rw [if_neg (by decide)]
        cases hd : dgtU (at_ s (n + 2)) with
        | true =>
          rw [Bool.true_or, Bool.true_or, Bool.true_and]
          refine Ev.steps1 (fun k => ?_) t1
          rw [regletref02_IsNumber.j0, if_neg (by decide), e6, if_pos e8, if_pos e9, btA, rsign_f, Option.bind_some, hs, if_neg (by decide), rdigit_f, Option.bind_some, hd, if_pos rfl, if_pos e10]
        | false =>
          cases hl : ltrU (at_ s (n + 2)) with
          | true =>
            rw [Bool.or_true, Bool.true_or, Bool.true_and]
            refine Ev.steps1 (fun k => ?_) t1
            rw [regletref02_IsNumber.j0, if_neg (by decide), e6, if_pos e8, if_pos e9, btA, rsign_f, Option.bind_some, hs, if_neg (by decide), rdigit_f, Option.bind_some, hd, if_neg (by decide), rletter_f, Option.bind_some, hl, if_pos rfl, if_pos e10]
          | false =>
            rw [Bool.or_self, Bool.false_or]
            by_cases c : at_ s (n + 2) = 46
            · have c' : ((at_ s (n + 2)).toNat : Int) = 46 := (u8_eq _ 46 46 rfl (by omega)).2 c
              rw [c, beq_self_eq_true, Bool.true_and]
              refine Ev.steps1 (fun k => ?_) t1
              rw [regletref02_IsNumber.j0, if_neg (by decide), e6, if_pos e8, if_pos e9, btA, rsign_f, Option.bind_some, hs, if_neg (by decide), rdigit_f, Option.bind_some, hd, if_neg (by decide), rletter_f, Option.bind_some, hl, if_neg (by decide), if_pos c', if_pos e10]
            · have c' : ¬ ((at_ s (n + 2)).toNat : Int) = 46 := fun e => c ((u8_eq _ 46 46 rfl (by omega)).1 e)
              rw [beq_eq_false_iff_ne.2 c, Bool.false_and]
              refine Ev.done1 fun k => ?_
              rw [regletref02_IsNumber.j0, if_neg (by decide), e6, if_pos e8, if_pos e9, btA, rsign_f, Option.bind_some, hs, if_neg (by decide), rdigit_f, Option.bind_some, hd, if_neg (by decide), rletter_f, Option.bind_some, hl, if_neg (by decide), if_neg c']
/-! pieces of a literal -/
theorem rpieces_l (s : ByteArray) (q : UInt8) (hs : s.size ≤ 140737488351232) : ∀ (d i : Nat), s.size - i ≤ d → i ≤ s.size → Ev (fun k => regletref02_pieces.l0 k s (q.toNat : Int) (i : Int)) (piecesT q ((L s).drop i)) := by
  intro d
  induction d using Nat.strongRecOn with
  | _ d ih =>
    intro i hd h1
    by_cases hi : i < s.size
    · have e1 : (i : Int) < (s.size : Int) := by omega
      have e2 : (0 : Int) ≤ (i : Int) := by omega
      have hw := w64_1 s hs i 1 (by omega) (by omega)
      have hw2 : wrap64 ((i : Int) + 1) = ((i + 1 : Nat) : Int) := hw
      have heq : ((at_ s i).toNat : Int) = (q.toNat : Int) ↔ at_ s i = q := by
        constructor
        · intro e; exact UInt8.toNat_inj.1 (by omega)
        · intro e; rw [e]
      have h10 := u8_eq (at_ s i) 10 10 rfl (by omega)
      have h92 := u8_eq (at_ s i) 92 92 rfl (by omega)
      have hb : at_ s i = q ∨ at_ s i = 10 → Ev (fun k => regletref02_pieces.l0 k s (q.toNat : Int) (i : Int)) false := by
        intro h
        by_cases c : at_ s i = q
        · refine Ev.steps1 (f := fun k => regletref02_pieces.j1 k s (q.toNat : Int) (i : Int) true) (fun k => by rw [regletref02_pieces.l0, if_pos e1, if_pos e2, btA, if_pos (heq.2 c)]) (Ev.done1 fun k => by rw [regletref02_pieces.j1, if_pos rfl])
        · have c2 : at_ s i = 10 := h.resolve_left c
          refine Ev.steps1 (f := fun k => regletref02_pieces.j1 k s (q.toNat : Int) (i : Int) true) (fun k => by rw [regletref02_pieces.l0, if_pos e1, if_pos e2, btA, if_neg (fun e => c (heq.1 e)), beq_iff_eq.2 (h10.2 c2)]) (Ev.done1 fun k => by rw [regletref02_pieces.j1, if_pos rfl])
      have hg : ∀ r : Bool, ¬ (at_ s i = q ∨ at_ s i = 10) → Ev (fun k => regletref02_pieces.j1 k s (q.toNat : Int) (i : Int) false) r → Ev (fun k => regletref02_pieces.l0 k s (q.toNat : Int) (i : Int)) r := by
        intro r h hj
        refine Ev.steps1 (fun k => ?_) hj
        rw [regletref02_pieces.l0, if_pos e1, if_pos e2, btA, if_neg (fun e => h (.inl (heq.1 e))), beq_eq_false_iff_ne.2 (fun e => h (.inr (h10.1 e)))]
      rw [drop_at s i hi]
      by_cases c : at_ s i = q ∨ at_ s i = 10
      · have : piecesT q (at_ s i :: (L s).drop (i + 1)) = false := by
          cases (L s).drop (i + 1) with
          | nil => rcases c with c | c <;> simp [piecesT, c]
          | cons b r => rw [piecesT, if_pos c]
        rw [this]
        exact hb c
      · refine hg _ c ?_
        by_cases c92 : at_ s i = 92
        · by_cases hi2 : i + 1 < s.size
          · have e3 : ¬ ((i + 1 : Nat) : Int) = (s.size : Int) := by omega
            have e4 : (0 : Int) ≤ ((i + 1 : Nat) : Int) := by omega
            have e5 : ((i + 1 : Nat) : Int) < (s.size : Int) := by omega
            have hw3 : wrap64 (((i + 1 : Nat) : Int) + 1) = ((i + 2 : Nat) : Int) := w64_1 s hs (i + 1) 1 (by omega) (by omega)
            rw [drop_at s (i + 1) hi2, piecesT, if_neg c, if_pos c92]
            by_cases d10 : at_ s (i + 1) = 10
            · rw [d10, show ((10 : UInt8) != 10) = false from rfl, Bool.false_and]
              refine Ev.done1 fun k => ?_
              rw [regletref02_pieces.j1, if_neg (by decide), if_pos e2, if_pos e1, btA, if_pos (h92.2 c92), hw2, if_neg e3, if_pos e4, if_pos e5, btA, if_pos ((u8_eq _ 10 10 rfl (by omega)).2 d10)]
            · rw [bne_iff_ne.2 d10, Bool.true_and]
              refine Ev.steps1 (fun k => ?_) (ih (s.size - (i + 2)) (by omega) (i + 2) (Nat.le_refl _) (by omega))
              rw [regletref02_pieces.j1, if_neg (by decide), if_pos e2, if_pos e1, btA, if_pos (h92.2 c92), hw2, if_neg e3, if_pos e4, if_pos e5, btA, if_neg (fun e => d10 ((u8_eq _ 10 10 rfl (by omega)).1 e)), hw3]
          · have e3 : ((i + 1 : Nat) : Int) = (s.size : Int) := by omega
            rw [nil_drop s (i + 1) hi2]
            have : piecesT q [at_ s i] = false := by simp [piecesT, c92]
            rw [this]
            refine Ev.done1 fun k => ?_
            rw [regletref02_pieces.j1, if_neg (by decide), if_pos e2, if_pos e1, btA, if_pos (h92.2 c92), hw2, if_pos e3]
        · have hr : piecesT q (at_ s i :: (L s).drop (i + 1)) = piecesT q ((L s).drop (i + 1)) := by
            cases (L s).drop (i + 1) with
            | nil =>
              have c1 : at_ s i ≠ q := fun e => c (.inl e)
              have c2 : at_ s i ≠ 10 := fun e => c (.inr e)
              simp [piecesT, c1, c2, c92]
            | cons b r => rw [piecesT, if_neg c, if_neg c92]
          rw [hr]
          refine Ev.steps1 (fun k => ?_) (ih (s.size - (i + 1)) (by omega) (i + 1) (Nat.le_refl _) (by omega))
          rw [regletref02_pieces.j1, if_neg (by decide), if_pos e2, if_pos e1, btA, if_neg (fun e => c92 (h92.1 e)), hw2]
    · have e1 : ¬ (i : Int) < (s.size : Int) := by omega
      rw [nil_drop s i hi]
      refine Ev.done1 fun k => ?_
      rw [regletref02_pieces.l0, if_neg e1]; rfl
theorem rpieces_f (s : ByteArray) (q : UInt8) (hs : s.size ≤ 140737488351232) : Ev (fun k => regletref02_pieces.f k s (q.toNat : Int)) (piecesT q (L s)) := rpieces_l s q hs _ 0 (Nat.le_refl _) (Nat.zero_le _)
end Go.Proofs.Ytonfmnohmigjpaa.P
/- The reference's literals, punctuators, kinds, and the longest text that is a token (regletref02), over plain lists. -/
namespace Go.Proofs.Ytonfmnohmigjpaa.P
open Go.RowKit Go.Proofs.YtonfmnohmigjpaaW.PrintWords Go.Proofs.YtonfmnohmigjpaaW.PrintLast

/-! literals -/
theorem rlit_step (s p : ByteArray) (q : UInt8) (ps : List ByteArray) (i : Nat) (hi : i < ps.length) (hl : ps.length ≤ 100) (hp : rdOf ByteArray.empty ps (i : Int) = p) (hp2 : p.size ≤ 2) (hs : s.size ≤ 140737488351232) (R : Bool)
    (hn : Ev (fun k => regletref02_IsLiteral.l0 k s (q.toNat : Int) ps ((i + 1 : Nat) : Int)) R) :
    Ev (fun k => regletref02_IsLiteral.l0 k s (q.toNat : Int) ps (i : Int)) (if litP q (L p) (L s) then (q == 34 || decide ((L s).length > (L p).length + 2)) else R) := by
  have a1 : (i : Int) < (ps.length : Int) := by omega
  have a2 : (0 : Int) ≤ (i : Int) := by omega
  have hw1 : wrap64 ((i : Int) + 1) = ((i + 1 : Nat) : Int) := by unfold wrap64; omega
  have hw2 : wrap64 ((p.size : Int) + 2) = ((p.size + 2 : Nat) : Int) := by unfold wrap64; omega
  have hq : ∀ c : UInt8, (c.toNat : Int) = (q.toNat : Int) ↔ c = q := by
    intro c
    constructor
    · intro e; exact UInt8.toNat_inj.1 (by omega)
    · intro e; rw [e]
  have next : litP q (L p) (L s) = false → (∀ k, regletref02_IsLiteral.l0 (k + 1) s (q.toNat : Int) ps (i : Int) = regletref02_IsLiteral.l0 k s (q.toNat : Int) ps ((i + 1 : Nat) : Int)) → Ev (fun k => regletref02_IsLiteral.l0 k s (q.toNat : Int) ps (i : Int)) (if litP q (L p) (L s) then (q == 34 || decide ((L s).length > (L p).length + 2)) else R) := by
    intro h1 h2
    rw [h1, if_neg (by decide)]
    exact Ev.steps1 h2 hn
  unfold litP at next ⊢
  rw [L_length, L_length] at next ⊢
  by_cases c1 : p.size + 2 ≤ s.size
  · have b1 : (s.size : Int) ≥ ((p.size + 2 : Nat) : Int) := by omega
    have b2 : (0 : Int) ≤ (p.size : Int) := by omega
    have b3 : (p.size : Int) ≤ (s.size : Int) := by omega
    have b4 : (p.size : Int) < (s.size : Int) := by omega
    have hw3 : wrap64 ((s.size : Int) - 1) = ((s.size - 1 : Nat) : Int) := w64m s.size 1 (by omega) hs
    have hw4 : wrap64 ((p.size : Int) + 1) = ((p.size + 1 : Nat) : Int) := by unfold wrap64; omega
    have b5 : (0 : Int) ≤ ((s.size - 1 : Nat) : Int) := by omega
    have b6 : ((s.size - 1 : Nat) : Int) < (s.size : Int) := by omega
    have b7 : (0 : Int) ≤ ((p.size + 1 : Nat) : Int) := by omega
    have b8 : ((p.size + 1 : Nat) : Int) ≤ ((s.size - 1 : Nat) : Int) := by omega
    have b9 : ((s.size - 1 : Nat) : Int) ≤ (s.size : Int) := by omega
    rw [decide_eq_true c1, Bool.true_and] at next ⊢
    by_cases c2 : (L s).take p.size = L p
    · rw [decide_eq_true c2, Bool.true_and] at next ⊢
      have c2' : (s.extract 0 ((p.size : Nat) : Int).toNat).toList = p.toList := by rw [Int.toNat_natCast, toList_L, toList_L, ext0]; exact c2
      by_cases c3 : at_ s p.size = q
      · have d3 : ((L s).getD p.size 0 == q) = true := beq_iff_eq.2 c3
        rw [d3, Bool.true_and] at next ⊢
        have c3' := (hq _).2 c3
        by_cases c4 : at_ s (s.size - 1) = q
        · have d4 : ((L s).getD (s.size - 1) 0 == q) = true := beq_iff_eq.2 c4
          rw [d4, Bool.true_and] at next ⊢
          have c4' := (hq _).2 c4
          have hm : L (s.extract (p.size + 1) (s.size - 1)) = ((L s).drop (p.size + 1)).take (s.size - 1 - (p.size + 1)) := L_extract _ _ _
          have hms : (s.extract (p.size + 1) (s.size - 1)).size ≤ s.size := by
            rw [← L_length, hm, List.length_take, List.length_drop, L_length]; omega
          have hpc := rpieces_f (s.extract (p.size + 1) (s.size - 1)) q (by omega)
          rw [hm] at hpc
          cases hpz : piecesT q (((L s).drop (p.size + 1)).take (s.size - 1 - (p.size + 1))) with
          | true =>
            rw [hpz] at hpc
            rw [if_pos rfl]
            have fin : Ev (fun k => (regletref02_pieces.f k (s.extract (((p.size + 1 : Nat) : Int)).toNat (((s.size - 1 : Nat) : Int)).toNat) (q.toNat : Int)).bind fun t232 => (if t232 = true then (if (q.toNat : Int) = 34 then (some true) else (some (decide ((s.size : Int) > ((p.size + 2 : Nat) : Int))))) else (regletref02_IsLiteral.l0 k s (q.toNat : Int) ps ((i + 1 : Nat) : Int)))) (q == 34 || decide (s.size > p.size + 2)) := by
              refine Ev.bind (by rw [Int.toNat_natCast, Int.toNat_natCast]; exact hpc) (Ev.congr (fun k => if_pos rfl) ?_)
              by_cases c34 : q = 34
              · have d34 : (q.toNat : Int) = 34 := by rw [c34]; rfl
                have : (q == 34) = true := beq_iff_eq.2 c34
                rw [this, Bool.true_or]
                exact Ev.congr (fun k => if_pos d34) (Ev.now _)
              · have d34 : ¬ (q.toNat : Int) = 34 := fun e => c34 ((u8_eq _ 34 34 rfl (by omega)).1 e)
                have : (q == 34) = false := beq_eq_false_iff_ne.2 c34
                rw [this, Bool.false_or]
                have hd : decide ((s.size : Int) > ((p.size + 2 : Nat) : Int)) = decide (s.size > p.size + 2) := by
                  by_cases h : s.size > p.size + 2
                  · rw [decide_eq_true h, decide_eq_true (by omega)]
                  · rw [decide_eq_false h, decide_eq_false (by omega)]
                exact Ev.congr (fun k => (if_neg d34).trans (by rw [hd])) (Ev.now _)
            refine Ev.steps1 (fun k => ?_) fin
            rw [regletref02_IsLiteral.l0, if_pos a1, if_pos a2, hp, hw2, if_pos b1, if_pos b2, if_pos b3, if_pos c2', if_pos b4, btA, if_pos c3', hw3, if_pos b5, if_pos b6, btA, if_pos c4', hw4, if_pos b7, if_pos b8, if_pos b9, hw1]
          | false =>
            rw [hpz] at hpc
            rw [if_neg (by decide)]
            have fin : Ev (fun k => (regletref02_pieces.f k (s.extract (((p.size + 1 : Nat) : Int)).toNat (((s.size - 1 : Nat) : Int)).toNat) (q.toNat : Int)).bind fun t232 => (if t232 = true then (if (q.toNat : Int) = 34 then (some true) else (some (decide ((s.size : Int) > ((p.size + 2 : Nat) : Int))))) else (regletref02_IsLiteral.l0 k s (q.toNat : Int) ps ((i + 1 : Nat) : Int)))) R :=
              Ev.bind (by rw [Int.toNat_natCast, Int.toNat_natCast]; exact hpc) (Ev.congr (fun k => if_neg (by decide)) hn)
            refine Ev.steps1 (fun k => ?_) fin
            rw [regletref02_IsLiteral.l0, if_pos a1, if_pos a2, hp, hw2, if_pos b1, if_pos b2, if_pos b3, if_pos c2', if_pos b4, btA, if_pos c3', hw3, if_pos b5, if_pos b6, btA, if_pos c4', hw4, if_pos b7, if_pos b8, if_pos b9, hw1]
        · have d4 : ((L s).getD (s.size - 1) 0 == q) = false := beq_eq_false_iff_ne.2 c4
          rw [d4] at next ⊢
          exact next (by simp) fun k => by
            rw [regletref02_IsLiteral.l0, if_pos a1, if_pos a2, hp, hw2, if_pos b1, if_pos b2, if_pos b3, if_pos c2', if_pos b4, btA, if_pos c3', hw3, if_pos b5, if_pos b6, btA, if_neg (fun e => c4 ((hq _).1 e)), hw1]
      · have d3 : ((L s).getD p.size 0 == q) = false := beq_eq_false_iff_ne.2 c3
        rw [d3] at next ⊢
        exact next (by simp) fun k => by
          rw [regletref02_IsLiteral.l0, if_pos a1, if_pos a2, hp, hw2, if_pos b1, if_pos b2, if_pos b3, if_pos c2', if_pos b4, btA, if_neg (fun e => c3 ((hq _).1 e)), hw1]
    · rw [decide_eq_false c2] at next ⊢
      have c2' : ¬ (s.extract 0 ((p.size : Nat) : Int).toNat).toList = p.toList := by rw [Int.toNat_natCast, toList_L, toList_L, ext0]; exact c2
      exact next (by simp) fun k => by
        rw [regletref02_IsLiteral.l0, if_pos a1, if_pos a2, hp, hw2, if_pos b1, if_pos b2, if_pos b3, if_neg c2', hw1]
  · have b1 : ¬ (s.size : Int) ≥ ((p.size + 2 : Nat) : Int) := by omega
    rw [decide_eq_false c1] at next ⊢
    exact next (by simp) fun k => by
      rw [regletref02_IsLiteral.l0, if_pos a1, if_pos a2, hp, hw2, if_neg b1, hw1]
theorem rlit_l (s : ByteArray) (q : UInt8) (ps : List ByteArray) (hl : ps.length ≤ 100) (hps : ∀ p ∈ ps, p.size ≤ 2) (hs : s.size ≤ 140737488351232) : ∀ (d i : Nat), ps.length - i ≤ d → i ≤ ps.length → Ev (fun k => regletref02_IsLiteral.l0 k s (q.toNat : Int) ps (i : Int)) (isLitT q (L s) ((ps.map L).drop i)) := by
  intro d
  have fin : ∀ i, ¬ i < ps.length → Ev (fun k => regletref02_IsLiteral.l0 k s (q.toNat : Int) ps (i : Int)) (isLitT q (L s) ((ps.map L).drop i)) := by
    intro i hi
    have e1 : ¬ (i : Int) < (ps.length : Int) := by omega
    rw [List.drop_eq_nil_of_le (by rw [List.length_map]; omega)]
    refine Ev.done1 fun k => ?_
    rw [regletref02_IsLiteral.l0, if_neg e1]; rfl
  induction d with
  | zero => exact fun i h _ => fin i (by omega)
  | succ d ih =>
    intro i hd h1
    by_cases hi : i < ps.length
    · have hD : (ps.map L).drop i = L ps[i] :: (ps.map L).drop (i + 1) := by
        rw [List.drop_eq_getElem_cons (by rw [List.length_map]; exact hi), List.getElem_map]
      have hp : rdOf ByteArray.empty ps (i : Int) = ps[i] := by
        unfold rdOf
        rw [Int.toNat_natCast, List.getD_eq_getElem?_getD, List.getElem?_eq_getElem hi, Option.getD_some]
      rw [hD, isLitT]
      exact rlit_step s ps[i] q ps i hi hl hp (hps _ (List.getElem_mem hi)) hs _ (ih (i + 1) (by omega) (by omega))
    · exact fin i hi
theorem rlit3_f (s : ByteArray) (hs : s.size ≤ 140737488351232) : Ev (fun k => regletref02_IsLiteral.f k s 39 (([(⟨#[]⟩ : ByteArray), (⟨#[117]⟩ : ByteArray), (⟨#[85]⟩ : ByteArray), (⟨#[76]⟩ : ByteArray)] : List ByteArray))) (isLitT 39 (L s) pre3) :=
  rlit_l s 39 [(⟨#[]⟩ : ByteArray), (⟨#[117]⟩ : ByteArray), (⟨#[85]⟩ : ByteArray), (⟨#[76]⟩ : ByteArray)] (by decide) (by decide +kernel) hs _ 0 (Nat.le_refl _) (Nat.zero_le _)
theorem rlit4_f (s : ByteArray) (hs : s.size ≤ 140737488351232) : Ev (fun k => regletref02_IsLiteral.f k s 34 (([(⟨#[]⟩ : ByteArray), (⟨#[117, 56]⟩ : ByteArray), (⟨#[117]⟩ : ByteArray), (⟨#[85]⟩ : ByteArray), (⟨#[76]⟩ : ByteArray)] : List ByteArray))) (isLitT 34 (L s) pre4) :=
  rlit_l s 34 [(⟨#[]⟩ : ByteArray), (⟨#[117, 56]⟩ : ByteArray), (⟨#[117]⟩ : ByteArray), (⟨#[85]⟩ : ByteArray), (⟨#[76]⟩ : ByteArray)] (by decide) (by decide +kernel) hs _ 0 (Nat.le_refl _) (Nat.zero_le _)
/-! punctuators -/
def allP : List UInt8 := [32, 91, 32, 93, 32, 40, 32, 41, 32, 123, 32, 125, 32, 46, 32, 45, 62, 32, 43, 43, 32, 45, 45, 32, 38, 32, 42, 32, 43, 32, 45, 32, 126, 32, 33, 32, 47, 32, 37, 32, 60, 60, 32, 62, 62, 32, 60, 32, 62, 32, 60, 61, 32, 62, 61, 32, 61, 61, 32, 33, 61, 32, 94, 32, 124, 32, 38, 38, 32, 124, 124, 32, 63, 32, 58, 32, 59, 32, 46, 46, 46, 32, 61, 32, 42, 61, 32, 47, 61, 32, 37, 61, 32, 43, 61, 32, 45, 61, 32, 60, 60, 61, 32, 62, 62, 61, 32, 38, 61, 32, 94, 61, 32, 124, 61, 32, 44, 32, 35, 32, 35, 35, 32, 60, 58, 32, 58, 62, 32, 60, 37, 32, 37, 62, 32, 37, 58, 32, 37, 58, 37, 58, 32]
def subP (i n : Nat) : List UInt8 := (allP.drop i).take n
/-- Whether a word stands in the list from a place on. -/
def hasW (w : List UInt8) : Nat → Nat → Bool
  | _, 0 => false
  | i, d + 1 => decide (subP i w.length = w) || hasW w (i + 1) d
theorem hasW_iff (w : List UInt8) : ∀ (d i : Nat), hasW w i d = true ↔ ∃ j, i ≤ j ∧ j < i + d ∧ subP j w.length = w := by
  intro d
  induction d with
  | zero => intro i; simp [hasW]; intro j h1 h2; omega
  | succ d ih =>
    intro i
    rw [hasW, Bool.or_eq_true, decide_eq_true_eq, ih]
    constructor
    · rintro (h | ⟨j, h1, h2, h3⟩)
      · exact ⟨i, Nat.le_refl _, by omega, h⟩
      · exact ⟨j, by omega, by omega, h3⟩
    · rintro ⟨j, h1, h2, h3⟩
      by_cases e : j = i
      · left; rw [← e]; exact h3
      · right; exact ⟨j, by omega, by omega, h3⟩
theorem words_all : ∀ i : Fin 143, ∀ n : Fin 4, (decide ((subP i.1 (n.1 + 3)).length = n.1 + 3) && (subP i.1 (n.1 + 3)).headD 0 == 32 && (subP i.1 (n.1 + 3)).getLast?.getD 0 == 32 && ((subP i.1 (n.1 + 3)).drop 1).dropLast.all (fun c => c != 32)) = true → isPct ((subP i.1 (n.1 + 3)).drop 1).dropLast = true := by decide +kernel
theorem words_in : pcts.all (fun t => hasW (32 :: (t ++ [32])) 0 143) = true := by decide +kernel
theorem pct_word (t : List UInt8) (h0 : 1 ≤ t.length) (h4 : t.length ≤ 4) (hb : t.all (fun c => c != 32) = true) : hasW (32 :: (t ++ [32])) 0 143 = isPct t := by
  cases hp : isPct t with
  | true => exact List.all_eq_true.1 words_in t (pct_mem t hp)
  | false =>
    cases hw : hasW (32 :: (t ++ [32])) 0 143 with
    | false => rfl
    | true =>
      exfalso
      obtain ⟨j, _, h2, h3⟩ := (hasW_iff _ _ _).1 hw
      have hl : (32 :: (t ++ [32])).length = (t.length - 1) + 3 := by simp; omega
      rw [hl] at h3
      have := words_all ⟨j, by omega⟩ ⟨t.length - 1, by omega⟩
      dsimp only at this
      rw [h3] at this
      have hd : ((32 :: (t ++ [32])).drop 1).dropLast = t := by simp
      rw [hd, hp] at this
      refine absurd (this ?_) (by decide)
      have hg : (32 :: (t ++ [32])).getLast?.getD 0 = 32 := by rw [show (32 :: (t ++ [32])) = (32 :: t) ++ [32] by simp, List.getLast?_append]; rfl
      rw [hb, hl, hg]
      simp
theorem blank_l (s w : ByteArray) (hs : s.size ≤ 4) (R : Bool) (hR : Ev (fun k => regletref02_IsPunct.l1 k w 0) R) : ∀ (d i : Nat), s.size - i ≤ d → i ≤ s.size → Ev (fun k => regletref02_IsPunct.l0 k s w (i : Int)) (((L s).drop i).all (fun c => c != 32) && R) := by
  intro d
  have fin : ∀ i, ¬ i < s.size → Ev (fun k => regletref02_IsPunct.l0 k s w (i : Int)) (((L s).drop i).all (fun c => c != 32) && R) := by
    intro i hi
    have e1 : ¬ (i : Int) < (s.size : Int) := by omega
    rw [nil_drop s i hi]
    exact Ev.steps1 (fun k => by rw [regletref02_IsPunct.l0, if_neg e1]) hR
  induction d with
  | zero => exact fun i h _ => fin i (by omega)
  | succ d ih =>
    intro i hd h1
    by_cases hi : i < s.size
    · have e1 : (i : Int) < (s.size : Int) := by omega
      have e2 : (0 : Int) ≤ (i : Int) := by omega
      have hw : wrap64 ((i : Int) + 1) = ((i + 1 : Nat) : Int) := by unfold wrap64; omega
      rw [drop_at s i hi, List.all_cons]
      by_cases c : at_ s i = 32
      · rw [c, show ((32 : UInt8) != 32) = false from rfl, Bool.false_and, Bool.false_and]
        exact Ev.done1 fun k => by rw [regletref02_IsPunct.l0, if_pos e1, if_pos e2, btA, if_pos ((u8_eq _ 32 32 rfl (by omega)).2 c)]
      · rw [bne_iff_ne.2 c, Bool.true_and]
        exact Ev.steps1 (fun k => by rw [regletref02_IsPunct.l0, if_pos e1, if_pos e2, btA, if_neg (fun e => c ((u8_eq _ 32 32 rfl (by omega)).1 e)), hw]) (ih (i + 1) (by omega) (by omega))
    · exact fin i hi
theorem find_l (w : ByteArray) (h3 : 3 ≤ w.size) (h6 : w.size ≤ 6) : ∀ (d i : Nat), 143 - i = d → i ≤ 143 → Ev (fun k => regletref02_IsPunct.l1 k w (i : Int)) (hasW (L w) i d) := by
  intro d
  have stop : ∀ i d, 143 < i + w.size → i + d = 143 → hasW (L w) i d = false := by
    intro i d h hd
    cases hh : hasW (L w) i d with
    | false => rfl
    | true =>
      exfalso
      obtain ⟨j, h1, h2, h4⟩ := (hasW_iff _ _ _).1 hh
      have := congrArg List.length h4
      unfold subP at this
      rw [List.length_take, List.length_drop, L_length, show allP.length = 143 from rfl] at this
      omega
  induction d with
  | zero =>
    intro i hd h1
    have e1 : ¬ wrap64 ((i : Int) + (w.size : Int)) ≤ 143 := by unfold wrap64; omega
    exact Ev.done1 fun k => by rw [regletref02_IsPunct.l1, if_neg e1]; rfl
  | succ d ih =>
    intro i hd h1
    by_cases hi : i + w.size ≤ 143
    · have hw0 : wrap64 ((i : Int) + (w.size : Int)) = ((i + w.size : Nat) : Int) := by unfold wrap64; omega
      have hw : wrap64 ((i : Int) + 1) = ((i + 1 : Nat) : Int) := by unfold wrap64; omega
      have e1 : ((i + w.size : Nat) : Int) ≤ 143 := by omega
      have e2 : (0 : Int) ≤ (i : Int) := by omega
      have e3 : (i : Int) ≤ ((i + w.size : Nat) : Int) := by omega
      have hx : ∀ A : ByteArray, L A = allP → ((A.extract (i : Int).toNat ((i + w.size : Nat) : Int).toNat).toList = w.toList ↔ subP i (L w).length = L w) := by
        intro A hA
        rw [Int.toNat_natCast, Int.toNat_natCast, toList_L, toList_L, L_extract, hA, Nat.add_sub_cancel_left, L_length]
        rfl
      rw [hasW]
      by_cases c : subP i (L w).length = L w
      · rw [decide_eq_true c, Bool.true_or]
        exact Ev.done1 fun k => by rw [regletref02_IsPunct.l1, hw0, if_pos e1, if_pos e2, if_pos e3, if_pos ((hx _ rfl).2 c)]
      · rw [decide_eq_false c, Bool.false_or]
        exact Ev.steps1 (fun k => by rw [regletref02_IsPunct.l1, hw0, if_pos e1, if_pos e2, if_pos e3, if_neg (fun e => c ((hx _ rfl).1 e)), hw]) (ih (i + 1) (by omega) (by omega))
    · have e1 : ¬ wrap64 ((i : Int) + (w.size : Int)) ≤ 143 := by unfold wrap64; omega
      rw [stop i (d + 1) (by omega) (by omega)]
      exact Ev.done1 fun k => by rw [regletref02_IsPunct.l1, if_neg e1]
theorem rpunct_f (s : ByteArray) (hs : s.size ≤ 140737488351232) : Ev (fun k => regletref02_IsPunct.f k s) (isPct (L s)) := by
  have b1 : 1 + s.size ≤ 9223372036854775807 := by omega
  have b2 : ((⟨#[32]⟩ : ByteArray) ++ s).size + 1 ≤ 9223372036854775807 := by
    rw [ByteArray.size_append]
    show 1 + s.size + 1 ≤ _
    omega
  have hout : ¬ (1 ≤ s.size ∧ s.size ≤ 4) → isPct (L s) = false := by
    intro h
    cases hp : isPct (L s) with
    | false => rfl
    | true =>
      have := isPct_len _ hp
      rw [L_length] at this
      exact absurd this h
  unfold regletref02_IsPunct.f
  by_cases h0 : s.size = 0
  · have c0 : (s.size : Int) = 0 := by omega
    rw [hout (by omega)]
    refine Ev.done1 fun k => ?_
    rw [if_pos b1, if_pos b2, if_pos c0, regletref02_IsPunct.j0, if_pos rfl]
  · have c0 : ¬ (s.size : Int) = 0 := by omega
    by_cases h4 : s.size > 4
    · have c4 : (s.size : Int) > 4 := by omega
      rw [hout (by omega)]
      refine Ev.done1 fun k => ?_
      rw [if_pos b1, if_pos b2, if_neg c0, decide_eq_true c4, regletref02_IsPunct.j0, if_pos rfl]
    · have c4 : ¬ (s.size : Int) > 4 := by omega
      have hwL : L (((⟨#[32]⟩ : ByteArray) ++ s) ++ (⟨#[32]⟩ : ByteArray)) = 32 :: (L s ++ [32]) := by rw [L_app, L_app]; rfl
      have hws : (((⟨#[32]⟩ : ByteArray) ++ s) ++ (⟨#[32]⟩ : ByteArray)).size = s.size + 2 := by rw [← L_length, hwL]; simp [L_length]
      have hR := find_l _ (by rw [hws]; omega) (by rw [hws]; omega) 143 0 rfl (by omega)
      have hB := blank_l s _ (by omega) _ hR _ 0 (Nat.le_refl _) (Nat.zero_le _)
      rw [hwL, List.drop_zero] at hB
      have hval : ((L s).all (fun c => c != 32) && hasW (32 :: (L s ++ [32])) 0 143) = isPct (L s) := by
        cases hb : (L s).all (fun c => c != 32) with
        | true => rw [Bool.true_and]; exact pct_word _ (by rw [L_length]; omega) (by rw [L_length]; omega) hb
        | false =>
          rw [Bool.false_and]
          cases hp : isPct (L s) with
          | false => rfl
          | true =>
            exfalso
            have : (L s).all (fun c => c != 32) = true := List.all_eq_true.2 fun c hc => by
              have := (pct_bytes _ hp c hc).1
              rw [bne_iff_ne]
              rintro rfl
              exact absurd this (by decide)
            rw [this] at hb
            exact absurd hb (by decide)
      rw [hval] at hB
      refine Ev.steps1 (fun k => ?_) hB
      rw [if_pos b1, if_pos b2, if_neg c0, decide_eq_false c4, regletref02_IsPunct.j0, if_neg (by decide)]
      rfl
/-! kinds -/
theorem rkind_f (s : ByteArray) (hs : s.size ≤ 140737488351232) : Ev (fun k => regletref02_Kind.f k s) (kindT (L s)) := by
  unfold regletref02_Kind.f kindT
  by_cases c : L s = [10]
  · rw [if_pos c]
    exact Ev.congr (fun k => if_pos (by rw [toList_L]; exact c)) (Ev.now _)
  · rw [if_neg c]
    refine Ev.congr (fun k => if_neg (by rw [toList_L]; exact c)) (Ev.bind (rword_f s hs) ?_)
    cases isWordT (L s) with
    | true => exact Ev.congr (fun k => if_pos rfl) (Ev.now _)
    | false =>
      refine Ev.congr (fun k => if_neg (by decide)) (Ev.bind (rnum_f _ s rfl hs) ?_)
      cases isNumT (L s) with
      | true => exact Ev.congr (fun k => if_pos rfl) (Ev.now _)
      | false =>
        refine Ev.congr (fun k => if_neg (by decide)) (Ev.bind (rlit3_f s hs) ?_)
        cases isLitT 39 (L s) pre3 with
        | true => exact Ev.congr (fun k => if_pos rfl) (Ev.now _)
        | false =>
          refine Ev.congr (fun k => if_neg (by decide)) (Ev.bind (rlit4_f s hs) ?_)
          cases isLitT 34 (L s) pre4 with
          | true => exact Ev.congr (fun k => if_pos rfl) (Ev.now _)
          | false =>
            refine Ev.congr (fun k => if_neg (by decide)) (Ev.bind (rpunct_f s hs) ?_)
            cases isPct (L s) with
            | true => exact Ev.congr (fun k => if_pos rfl) (Ev.now _)
            | false => exact Ev.congr (fun k => if_neg (by decide)) (Ev.now _)
end Go.Proofs.Ytonfmnohmigjpaa.P
/- The reference's longest token, headers, comments (regletref02): the first token. -/
namespace Go.Proofs.Ytonfmnohmigjpaa.P
open Go.RowKit Go.Proofs.YtonfmnohmigjpaaW.PrintWords Go.Proofs.YtonfmnohmigjpaaW.PrintLast

/-! how far a line goes -/
theorem pieces_no10 (q : UInt8) : ∀ (k : Nat) (m : List UInt8), m.length = k → piecesT q m = true → (10 : UInt8) ∉ m := by
  intro k
  induction k using Nat.strongRecOn with
  | _ k ih =>
    intro m hm h
    match m, hm, h with
    | [], _, _ => simp
    | [c], _, h =>
      simp only [piecesT, Bool.not_eq_true', Bool.or_eq_false_iff, beq_eq_false_iff_ne, ne_eq] at h
      intro e
      rw [List.mem_singleton] at e
      exact h.1.2 e.symm
    | c :: d :: r, hm, h =>
      simp only [List.length_cons] at hm
      rw [piecesT] at h
      split at h
      · exact absurd h (by decide)
      · rename_i e
        have hc : c ≠ 10 := fun x => e (.inr x)
        split at h
        · rw [Bool.and_eq_true, bne_iff_ne] at h
          intro hmem
          rcases List.mem_cons.1 hmem with x | x
          · exact hc x.symm
          · rcases List.mem_cons.1 x with x | x
            · exact h.1 x.symm
            · exact ih r.length (by omega) r rfl h.2 x
        · intro hmem
          rcases List.mem_cons.1 hmem with x | x
          · exact hc x.symm
          · exact ih (r.length + 1) (by omega) (d :: r) rfl h x
theorem lineE_ge : ∀ (l : List UInt8) (n : Nat), n ≤ l.length → (10 : UInt8) ∉ l.take n → n ≤ lineE l := by
  intro l
  induction l with
  | nil => intro n h _; simp at h; omega
  | cons c r ih =>
    intro n h h10
    cases n with
    | zero => omega
    | succ n =>
      rw [List.take_succ_cons, List.mem_cons, not_or] at h10
      unfold lineE
      rw [if_neg (fun e => h10.1 e.symm)]
      have := ih n (by simpa using h) h10.2
      omega
theorem quoF_no10 (l : List UInt8) (h : 0 < (quoF l).2) : (10 : UInt8) ∉ l.take (quoF l).2 := by
  obtain ⟨p, hp, hq⟩ := quoF_some h
  have hat := quoP_at hq
  generalize quoF l = r at *
  have h6 : l.take r.2 = l.take p.length ++ (l.drop p.length).take (r.2 - p.length) := by rw [← List.take_add]; congr 1; omega
  have hpn : (10 : UInt8) ∉ p := by rcases hp with rfl | rfl | rfl | rfl | rfl <;> decide
  have key : ∀ q : UInt8, q ≠ 10 → 0 < litF q (l.drop p.length) → r.2 = p.length + litF q (l.drop p.length) → (10 : UInt8) ∉ l.take r.2 := by
    intro q hq10 h0 he
    obtain ⟨m, z, g1, g2, g3, _⟩ := (litF_iff q _).1 h0
    rw [h6, hat.2.1, he, Nat.add_sub_cancel_left, g3, g1]
    have : (q :: (m ++ q :: z)).take (m.length + 2) = q :: (m ++ [q]) := by
      rw [List.take_succ_cons, List.take_append, List.take_of_length_le (by omega), show m.length + 1 - m.length = 1 by omega]; rfl
    rw [this]
    intro hmem
    rcases List.mem_append.1 hmem with x | x
    · exact hpn x
    · rcases List.mem_cons.1 x with x | x
      · exact hq10 x.symm
      · rcases List.mem_append.1 x with x | x
        · exact pieces_no10 q _ m rfl g2 x
        · rw [List.mem_singleton] at x
          exact hq10 x.symm
  unfold quoP at hq
  split at hq
  · split at hq
    · rename_i h7
      have := Option.some.inj hq
      exact key 34 (by decide) h7 (by rw [← this])
    · split at hq
      · rename_i h7
        have := Option.some.inj hq
        exact key 39 (by decide) h7.1 (by rw [← this])
      · simp at hq
  · simp at hq
theorem four_line (l : List UInt8) : (fourF l).2 ≤ lineE l := by
  unfold fourF fourG
  by_cases h1 : 0 < (quoF l).2
  · rw [if_pos h1]; exact lineE_ge l _ (quoF_le l) (quoF_no10 l h1)
  · rw [if_neg h1]
    by_cases h2 : 0 < wordF l
    · rw [if_pos h2]; exact lineE_ge l _ (wordF_le l) (wordF_no10 l)
    · rw [if_neg h2]
      by_cases h3 : 0 < numF l
      · rw [if_pos h3]; exact lineE_ge l _ (numF_le l) (numF_no10 l)
      · rw [if_neg h3]
        by_cases h4 : 0 < punctF l
        · rw [if_pos h4]
          refine lineE_ge l _ (punctF_le l) (fun h9 => ?_)
          have := (pct_bytes _ (punctF_pct l h4) _ h9).1
          exact absurd this (by decide)
        · rw [if_neg h4]; exact Nat.zero_le _
/-- What the longest token is: kind and size. -/
def longT (l : List UInt8) : Int × Int :=
  if l.headD 0 = 10 then (9, 1) else if 0 < (fourF l).2 then ((fourF l).1, ((fourF l).2 : Int)) else if l.headD 0 = 39 ∨ l.headD 0 = 34 then (0, 0) else (6, 1)
theorem long_down (s : ByteArray) (hs : s.size ≤ 140737488351232) (h0 : 0 < s.size) (h10 : at_ s 0 ≠ 10) : ∀ (n : Nat), n ≤ s.size → (fourF (L s)).2 ≤ n →
    Ev (fun k => regletref02_longest.l1 k s (n : Int)) (if 0 < (fourF (L s)).2 then ((fourF (L s)).1, ((fourF (L s)).2 : Int)) else if at_ s 0 = 39 ∨ at_ s 0 = 34 then (0, 0) else (6, 1)) := by
  intro n
  have hh : (L s).headD 0 ≠ 10 := by
    have := drop_at s 0 h0
    rw [List.drop_zero] at this
    rw [this]; exact h10
  induction n with
  | zero =>
    intro _ hf
    have hz : ¬ 0 < (fourF (L s)).2 := by omega
    have e3 : (0 : Int) < (s.size : Int) := by omega
    have hb : bt s 0 = ((at_ s 0).toNat : Int) := btA s 0
    rw [if_neg hz]
    refine Ev.done1 fun k => ?_
    show regletref02_longest.l1 (k + 1) s ((0 : Nat) : Int) = _
    rw [regletref02_longest.l1, if_neg (by decide), if_pos e3, hb]
    by_cases c1 : at_ s 0 = 39
    · rw [if_pos ((u8_eq _ 39 39 rfl (by omega)).2 c1), if_pos (.inl c1)]
    · rw [if_neg (fun e => c1 ((u8_eq _ 39 39 rfl (by omega)).1 e))]
      by_cases c2 : at_ s 0 = 34
      · rw [if_pos ((u8_eq _ 34 34 rfl (by omega)).2 c2), if_pos (.inr c2)]
      · rw [if_neg (fun e => c2 ((u8_eq _ 34 34 rfl (by omega)).1 e)), if_neg (fun h => h.elim c1 c2)]
  | succ n ih =>
    intro hn hf
    have e1 : ((n + 1 : Nat) : Int) > 0 := by omega
    have e2 : (0 : Int) ≤ ((n + 1 : Nat) : Int) := by omega
    have e3 : ((n + 1 : Nat) : Int) ≤ (s.size : Int) := by omega
    have hw : wrap64 (((n + 1 : Nat) : Int) - 1) = ((n : Nat) : Int) := by unfold wrap64; omega
    have hk := rkind_f (s.extract 0 (n + 1)) (by rw [size_ext0 s _ hn]; omega)
    rw [ext0] at hk
    obtain ⟨k1, k2, k3⟩ := kindT_of (L s) hh (n + 1) (by rw [L_length]; exact hn)
    by_cases c : (fourF (L s)).2 = n + 1
    · obtain ⟨g1, g2⟩ := k3 (by omega) c.symm
      rw [if_pos (by omega), c]
      refine Ev.steps1 (f := fun k => (regletref02_Kind.f k (s.extract 0 (((n + 1 : Nat) : Int)).toNat)).bind fun t244 => (if t244 > 0 then (some (t244, ((n + 1 : Nat) : Int))) else (regletref02_longest.l1 k s ((n : Nat) : Int)))) (fun k => by rw [regletref02_longest.l1, if_pos e1, if_pos e2, if_pos e3, hw]) ?_
      refine Ev.bind (by rw [Int.toNat_natCast]; exact hk) ?_
      rw [g1]
      exact Ev.congr (fun k => if_pos g2) (Ev.now _)
    · have g := k2 (by omega)
      refine Ev.steps1 (f := fun k => (regletref02_Kind.f k (s.extract 0 (((n + 1 : Nat) : Int)).toNat)).bind fun t244 => (if t244 > 0 then (some (t244, ((n + 1 : Nat) : Int))) else (regletref02_longest.l1 k s ((n : Nat) : Int)))) (fun k => by rw [regletref02_longest.l1, if_pos e1, if_pos e2, if_pos e3, hw]) ?_
      refine Ev.bind (by rw [Int.toNat_natCast]; exact hk) ?_
      rw [g]
      exact Ev.congr (fun k => if_neg (by decide)) (ih (by omega) (by omega))
theorem long_l0 (s : ByteArray) (hs : s.size ≤ 140737488351232) (R : Int × Int) (hR : Ev (fun k => regletref02_longest.j1 k s (lineE (L s) : Int)) R) : ∀ (d i : Nat), s.size - i ≤ d → i ≤ s.size → i + lineE ((L s).drop i) = lineE (L s) → Ev (fun k => regletref02_longest.l0 k s (i : Int)) R := by
  intro d
  have fin : ∀ i, ¬ i < s.size → i + lineE ((L s).drop i) = lineE (L s) → Ev (fun k => regletref02_longest.l0 k s (i : Int)) R := by
    intro i hi he
    have e1 : ¬ (i : Int) < (s.size : Int) := by omega
    rw [nil_drop s i hi, show lineE ([] : List UInt8) = 0 from rfl, Nat.add_zero] at he
    exact Ev.steps1 (fun k => by rw [regletref02_longest.l0, if_neg e1, he]) hR
  induction d with
  | zero => exact fun i h _ he => fin i (by omega) he
  | succ d ih =>
    intro i hd h1 he
    by_cases hi : i < s.size
    · have e1 : (i : Int) < (s.size : Int) := by omega
      have e2 : (0 : Int) ≤ (i : Int) := by omega
      have hw : wrap64 ((i : Int) + 1) = ((i + 1 : Nat) : Int) := w64_1 s hs i 1 (by omega) (by omega)
      rw [drop_at s i hi, lineE] at he
      by_cases c : at_ s i = 10
      · rw [if_pos c, Nat.add_zero] at he
        exact Ev.steps1 (fun k => by rw [regletref02_longest.l0, if_pos e1, if_pos e2, btA, if_pos ((u8_eq _ 10 10 rfl (by omega)).2 c), he]) hR
      · rw [if_neg c] at he
        exact Ev.steps1 (fun k => by rw [regletref02_longest.l0, if_pos e1, if_pos e2, btA, if_neg (fun e => c ((u8_eq _ 10 10 rfl (by omega)).1 e)), hw]) (ih (i + 1) (by omega) (by omega) (by omega))
    · exact fin i hi he
theorem rlong_f (s : ByteArray) (hs : s.size ≤ 140737488351232) (h0 : 0 < s.size) : Ev (fun k => regletref02_longest.f k s) (longT (L s)) := by
  have hD := drop_at s 0 h0
  rw [List.drop_zero] at hD
  have hh : (L s).headD 0 = at_ s 0 := by rw [hD]; rfl
  refine long_l0 s hs _ ?_ _ 0 (Nat.le_refl _) (Nat.zero_le _) (by rw [Nat.zero_add]; rfl)
  unfold longT
  rw [hh]
  by_cases c : at_ s 0 = 10
  · have : lineE (L s) = 0 := by rw [hD, lineE, if_pos c]
    rw [if_pos c, this]
    exact Ev.done1 fun k => by rw [regletref02_longest.j1]; rfl
  · have hpos : lineE (L s) ≠ 0 := by rw [hD, lineE, if_neg c]; omega
    have e1 : ¬ (lineE (L s) : Int) = 0 := by omega
    have hle : lineE (L s) ≤ s.size := by rw [← L_length]; exact lineE_le _
    rw [if_neg c]
    exact Ev.steps1 (fun k => by rw [regletref02_longest.j1, if_neg e1]) (long_down s hs h0 c _ hle (four_line _))
/-! headers -/
theorem rnamed_l (s : ByteArray) (e : UInt8) (_he : e ≠ 10) (hs : s.size ≤ 140737488351232) : ∀ (d i : Nat), s.size - i ≤ d → i ≤ s.size → Ev (fun k => regletref02_named.l0 k s (e.toNat : Int) (i : Int)) (match upT e ((L s).drop i) with | some n => ((i + n : Nat) : Int) | none => 0) := by
  intro d
  have fin : ∀ i, ¬ i < s.size → Ev (fun k => regletref02_named.l0 k s (e.toNat : Int) (i : Int)) (match upT e ((L s).drop i) with | some n => ((i + n : Nat) : Int) | none => 0) := by
    intro i hi
    have e1 : ¬ (i : Int) < (s.size : Int) := by omega
    rw [nil_drop s i hi]
    exact Ev.steps1 (fun k => by rw [regletref02_named.l0, if_neg e1]) (Ev.done1 fun k => by rw [regletref02_named.j3, if_neg (by decide)]; rfl)
  induction d with
  | zero => exact fun i h _ => fin i (by omega)
  | succ d ih =>
    intro i hd h1
    by_cases hi : i < s.size
    · have e1 : (i : Int) < (s.size : Int) := by omega
      have e2 : (0 : Int) ≤ (i : Int) := by omega
      have hw : wrap64 ((i : Int) + 1) = ((i + 1 : Nat) : Int) := w64_1 s hs i 1 (by omega) (by omega)
      rw [drop_at s i hi, upT]
      by_cases c : at_ s i = 10
      · rw [if_pos c]
        have c' : (((at_ s i).toNat : Int) != 10) = false := by rw [bne_eq_false_iff_eq]; exact (u8_eq _ 10 10 rfl (by omega)).2 c
        exact Ev.steps1 (fun k => by rw [regletref02_named.l0, if_pos e1, if_pos e2, btA, c']) (Ev.done1 fun k => by rw [regletref02_named.j3, if_neg (by decide)])
      · rw [if_neg c]
        have c' : (((at_ s i).toNat : Int) != 10) = true := by rw [bne_iff_ne]; exact fun x => c ((u8_eq _ 10 10 rfl (by omega)).1 x)
        refine Ev.steps1 (f := fun k => regletref02_named.j3 k s (e.toNat : Int) (i : Int) true) (fun k => by rw [regletref02_named.l0, if_pos e1, if_pos e2, btA, c']) ?_
        by_cases c2 : at_ s i = e
        · rw [if_pos c2]
          exact Ev.done1 fun k => by rw [regletref02_named.j3, if_pos rfl, if_pos e2, if_pos e1, btA, if_pos (by rw [c2]), hw]
        · rw [if_neg c2]
          have := ih (i + 1) (by omega) (by omega)
          cases hu : upT e ((L s).drop (i + 1)) with
          | none =>
            rw [hu] at this
            exact Ev.steps1 (fun k => by rw [regletref02_named.j3, if_pos rfl, if_pos e2, if_pos e1, btA, if_neg (fun x => c2 (UInt8.toNat_inj.1 (by omega))), hw]) this
          | some n =>
            rw [hu] at this
            rw [Option.map_some]
            show Ev _ ((i + (n + 1) : Nat) : Int)
            rw [show i + (n + 1) = i + 1 + n by omega]
            exact Ev.steps1 (fun k => by rw [regletref02_named.j3, if_pos rfl, if_pos e2, if_pos e1, btA, if_neg (fun x => c2 (UInt8.toNat_inj.1 (by omega))), hw]) this
    · exact fin i hi
theorem rnamed_f (s : ByteArray) (hs : s.size ≤ 140737488351232) (h0 : 0 < s.size) : Ev (fun k => regletref02_named.f k s) ((hdrF (L s) : Nat) : Int) := by
  have hD := drop_at s 0 h0
  rw [List.drop_zero] at hD
  have hb : bt s 0 = ((at_ s 0).toNat : Int) := btA s 0
  have e1 : (0 : Int) < (s.size : Int) := by omega
  have go : ∀ e : UInt8, e ≠ 10 → (∀ k, regletref02_named.j1 (k + 1) s (e.toNat : Int) = regletref02_named.l0 k s (e.toNat : Int) ((1 : Nat) : Int)) → Ev (fun k => regletref02_named.j1 k s (e.toNat : Int)) ((match upT e ((L s).drop 1) with | some n => n + 1 | none => 0 : Nat) : Int) := by
    intro e he hk
    have := rnamed_l s e he hs _ 1 (Nat.le_refl _) (by omega)
    refine Ev.steps1 hk ?_
    cases hu : upT e ((L s).drop 1) with
    | none => rw [hu] at this; exact this
    | some n => rw [hu] at this; rw [show ((n + 1 : Nat) : Int) = ((1 + n : Nat) : Int) by omega]; exact this
  have hdr : hdrF (L s) = if at_ s 0 = 60 then (match upT 62 ((L s).drop 1) with | some n => n + 1 | none => 0) else if at_ s 0 = 34 then (match upT 34 ((L s).drop 1) with | some n => n + 1 | none => 0) else 0 := by
    conv => lhs; rw [hD]
    rfl
  unfold regletref02_named.f
  rw [hdr]
  by_cases c : at_ s 0 = 60
  · have c' : ((at_ s 0).toNat : Int) = 60 := (u8_eq _ 60 60 rfl (by omega)).2 c
    rw [if_pos c]
    refine Ev.steps1 (f := fun k => regletref02_named.j1 k s ((62 : UInt8).toNat : Int)) (fun k => ?_) (go 62 (by decide) (fun k => by rw [regletref02_named.j1]; rfl))
    rw [if_pos e1, hb, if_pos c', regletref02_named.j0, if_neg (by decide), if_pos e1, hb, if_pos c']; rfl
  · have c' : ¬ ((at_ s 0).toNat : Int) = 60 := fun e => c ((u8_eq _ 60 60 rfl (by omega)).1 e)
    rw [if_neg c]
    by_cases c2 : at_ s 0 = 34
    · have c3 : ((at_ s 0).toNat : Int) = 34 := (u8_eq _ 34 34 rfl (by omega)).2 c2
      have c4 : (((at_ s 0).toNat : Int) != 34) = false := by rw [bne_eq_false_iff_eq]; exact c3
      rw [if_pos c2]
      refine Ev.steps1 (f := fun k => regletref02_named.j1 k s ((34 : UInt8).toNat : Int)) (fun k => ?_) (go 34 (by decide) (fun k => by rw [regletref02_named.j1]; rfl))
      rw [if_pos e1, hb, if_neg c', c4, regletref02_named.j0, if_neg (by decide), if_pos e1, hb, if_neg c', c3]; rfl
    · have c4 : (((at_ s 0).toNat : Int) != 34) = true := by rw [bne_iff_ne]; exact fun e => c2 ((u8_eq _ 34 34 rfl (by omega)).1 e)
      rw [if_neg c2]
      refine Ev.done1 fun k => ?_
      rw [if_pos e1, hb, if_neg c', c4, regletref02_named.j0, if_pos rfl]; rfl
/-! comments -/
theorem rline_l (s : ByteArray) (hs : s.size ≤ 140737488351232) (h1 : at_ s 1 = 47) (h2 : 1 < s.size) : ∀ (d i : Nat), s.size - i ≤ d → i ≤ s.size → 2 ≤ i → Ev (fun k => regletref02_remark.l0 k s (i : Int)) ((i + lineE ((L s).drop i) : Nat) : Int) := by
  intro d
  have hb1 : bt s 1 = 47 := by have := btA s 1; rw [h1] at this; exact this
  have e0 : (1 : Int) < (s.size : Int) := by omega
  have fin : ∀ i, ¬ i < s.size → i ≤ s.size → Ev (fun k => regletref02_remark.l0 k s (i : Int)) ((i + lineE ((L s).drop i) : Nat) : Int) := by
    intro i hi hle
    have e1 : ¬ (i : Int) < (s.size : Int) := by omega
    rw [nil_drop s i hi, show lineE ([] : List UInt8) = 0 from rfl, Nat.add_zero]
    exact Ev.done1 fun k => by rw [regletref02_remark.l0, if_neg e1, if_pos e0, if_pos hb1, show s.size = i by omega]
  induction d with
  | zero => exact fun i h hle _ => fin i (by omega) hle
  | succ d ih =>
    intro i hd hle h2i
    by_cases hi : i < s.size
    · have e1 : (i : Int) < (s.size : Int) := by omega
      have e2 : (0 : Int) ≤ (i : Int) := by omega
      have hw : wrap64 ((i : Int) + 1) = ((i + 1 : Nat) : Int) := w64_1 s hs i 1 (by omega) (by omega)
      have hb2 : ¬ bt s 1 = 42 := by rw [hb1]; decide
      rw [drop_at s i hi, lineE]
      by_cases c : at_ s i = 10
      · rw [if_pos c, Nat.add_zero]
        have c' : (((at_ s i).toNat : Int) == 10) = true := beq_iff_eq.2 ((u8_eq _ 10 10 rfl (by omega)).2 c)
        exact Ev.steps1 (fun k => by rw [regletref02_remark.l0, if_pos e1, if_pos e0, if_pos hb1, if_pos e2, btA, c']) (Ev.done1 fun k => by rw [regletref02_remark.j2, if_pos rfl])
      · rw [if_neg c, show i + (lineE ((L s).drop (i + 1)) + 1) = i + 1 + lineE ((L s).drop (i + 1)) by omega]
        have c' : (((at_ s i).toNat : Int) == 10) = false := beq_eq_false_iff_ne.2 (fun x => c ((u8_eq _ 10 10 rfl (by omega)).1 x))
        refine Ev.steps1 (fun k => by rw [regletref02_remark.l0, if_pos e1, if_pos e0, if_pos hb1, if_pos e2, btA, c']) (Ev.steps1 (fun k => ?_) (ih (i + 1) (by omega) (by omega) (by omega)))
        rw [regletref02_remark.j2, if_neg (by decide), if_pos e0, if_neg hb2, hw]
    · exact fin i hi hle
theorem rclose_l (s : ByteArray) (hs : s.size ≤ 140737488351232) (h1 : at_ s 1 = 42) (h2 : 1 < s.size) : ∀ (d i : Nat), s.size - i ≤ d → i ≤ s.size → 3 ≤ i → Ev (fun k => regletref02_remark.l0 k s (i : Int)) (comI ((closeC ((L s).drop (i - 1))).map (· + (i - 1)))) := by
  intro d
  have hb1 : bt s 1 = 42 := by have := btA s 1; rw [h1] at this; exact this
  have hb47 : ¬ bt s 1 = 47 := by rw [hb1]; decide
  have e0 : (1 : Int) < (s.size : Int) := by omega
  have fin : ∀ i, ¬ i < s.size → i ≤ s.size → 3 ≤ i → Ev (fun k => regletref02_remark.l0 k s (i : Int)) (comI ((closeC ((L s).drop (i - 1))).map (· + (i - 1)))) := by
    intro i hi hle h3
    have e1 : ¬ (i : Int) < (s.size : Int) := by omega
    have hd := drop_at s (i - 1) (by omega)
    rw [show i - 1 + 1 = i by omega, nil_drop s i hi] at hd
    rw [hd]
    exact Ev.done1 fun k => by rw [regletref02_remark.l0, if_neg e1, if_pos e0, if_neg hb47]; rfl
  induction d with
  | zero => exact fun i h hle h3 => fin i (by omega) hle h3
  | succ d ih =>
    intro i hd hle h3
    by_cases hi : i < s.size
    · have e1 : (i : Int) < (s.size : Int) := by omega
      have e2 : (0 : Int) ≤ (i : Int) := by omega
      have e3 : (i : Int) > 2 := by omega
      have hw : wrap64 ((i : Int) + 1) = ((i + 1 : Nat) : Int) := w64_1 s hs i 1 (by omega) (by omega)
      have hw1 : wrap64 ((i : Int) - 1) = ((i - 1 : Nat) : Int) := w64m i 1 (by omega) (by omega)
      have e4 : (0 : Int) ≤ ((i - 1 : Nat) : Int) := by omega
      have e5 : ((i - 1 : Nat) : Int) < (s.size : Int) := by omega
      have d1 := drop_at s (i - 1) (by omega)
      rw [show i - 1 + 1 = i by omega] at d1
      have d2 := drop_at s i hi
      have ih1 := ih (i + 1) (by omega) (by omega) (by omega)
      rw [Nat.add_sub_cancel, d2] at ih1
      rw [d1, d2, closeC]
      have hstep : ∀ R, Ev (fun k => regletref02_remark.j2 k s (i : Int) false) R → Ev (fun k => regletref02_remark.l0 k s (i : Int)) R := fun R h =>
        Ev.steps1 (fun k => by rw [regletref02_remark.l0, if_pos e1, if_pos e0, if_neg hb47]) h
      refine hstep _ ?_
      by_cases c : at_ s (i - 1) = 42 ∧ at_ s i = 47
      · rw [if_pos c]
        have c1 := (u8_eq (at_ s i) 47 47 rfl (by omega)).2 c.2
        have c2 := (u8_eq (at_ s (i - 1)) 42 42 rfl (by omega)).2 c.1
        refine Ev.done1 fun k => ?_
        rw [regletref02_remark.j2, if_neg (by decide), if_pos e0, if_pos hb1, if_pos e3, if_pos e2, if_pos e1, btA, if_pos c1, hw1, if_pos e4, if_pos e5, btA, if_pos c2, hw]
        show some (((i + 1 : Nat) : Int)) = some (((2 + (i - 1) : Nat)) : Int)
        congr 2; omega
      · rw [if_neg c]
        have hval : comI (((closeC (at_ s i :: (L s).drop (i + 1))).map (· + 1)).map (· + (i - 1))) = comI ((closeC (at_ s i :: (L s).drop (i + 1))).map (· + i)) := by
          rw [Option.map_map]
          congr 2
          funext x
          simp only [Function.comp]
          omega
        rw [hval]
        refine Ev.steps1 (fun k => ?_) ih1
        by_cases c1 : at_ s i = 47
        · have c1' := (u8_eq (at_ s i) 47 47 rfl (by omega)).2 c1
          have c2' : ¬ ((at_ s (i - 1)).toNat : Int) = 42 := fun e => c ⟨(u8_eq (at_ s (i - 1)) 42 42 rfl (by omega)).1 e, c1⟩
          rw [regletref02_remark.j2, if_neg (by decide), if_pos e0, if_pos hb1, if_pos e3, if_pos e2, if_pos e1, btA, if_pos c1', hw1, if_pos e4, if_pos e5, btA, if_neg c2', hw]
        · have c1' : ¬ ((at_ s i).toNat : Int) = 47 := fun e => c1 ((u8_eq _ 47 47 rfl (by omega)).1 e)
          rw [regletref02_remark.j2, if_neg (by decide), if_pos e0, if_pos hb1, if_pos e3, if_pos e2, if_pos e1, btA, if_neg c1', hw]
    · exact fin i hi hle h3
theorem rremark_f (s : ByteArray) (hs : s.size ≤ 140737488351232) : Ev (fun k => regletref02_remark.f k s) (comI (comF (L s))) := by
  unfold regletref02_remark.f
  by_cases h2 : s.size < 2
  · have e1 : (s.size : Int) < 2 := by omega
    have : comF (L s) = some 0 := by
      have hl : (L s).length < 2 := by rw [L_length]; exact h2
      match L s, hl with
      | [], _ => rfl
      | [a], _ => simp [comF, begU]
    rw [this]
    exact Ev.done1 fun k => by rw [if_pos e1, regletref02_remark.j0, if_pos rfl]; rfl
  · have e1 : ¬ (s.size : Int) < 2 := by omega
    have e2 : (0 : Int) < (s.size : Int) := by omega
    have e3 : (1 : Int) < (s.size : Int) := by omega
    have hb0 : bt s 0 = ((at_ s 0).toNat : Int) := btA s 0
    have hb1 : bt s 1 = ((at_ s 1).toNat : Int) := btA s 1
    have d0 := drop_at s 0 (by omega)
    rw [List.drop_zero] at d0
    have d1 := drop_at s 1 (by omega)
    have hL : L s = at_ s 0 :: at_ s 1 :: (L s).drop 2 := by
      conv => lhs; rw [d0]
      rw [d1]
    have hbeg : ∀ e : UInt8, begU [47, e] (L s) = decide (at_ s 0 = 47 ∧ at_ s 1 = e) := by
      intro e
      rw [hL]
      unfold begU
      congr 1
      simp
    unfold comF
    rw [hbeg, hbeg]
    by_cases c : at_ s 0 = 47
    · have c' : ((at_ s 0).toNat : Int) = 47 := (u8_eq _ 47 47 rfl (by omega)).2 c
      by_cases c1 : at_ s 1 = 47
      · have c1' : ((at_ s 1).toNat : Int) = 47 := (u8_eq _ 47 47 rfl (by omega)).2 c1
        rw [decide_eq_true ⟨c, c1⟩, if_pos rfl]
        have hv : comI (some (lineE (L s))) = ((2 + lineE ((L s).drop 2) : Nat) : Int) := by
          conv => lhs; rw [hL]
          rw [lineE, lineE, if_neg (by rw [c]; decide), if_neg (by rw [c1]; decide)]
          show ((lineE ((L s).drop 2) + 1 + 1 : Nat) : Int) = _
          omega
        rw [hv]
        refine Ev.steps1 (f := fun k => regletref02_remark.l0 k s ((2 : Nat) : Int)) (fun k => ?_) (rline_l s hs c1 (by omega) _ 2 (Nat.le_refl _) (by omega) (Nat.le_refl _))
        rw [if_neg e1, if_pos e2, hb0, if_pos c', if_pos e3, hb1, if_pos c1', regletref02_remark.j0, if_neg (by decide)]; rfl
      · have c1' : ¬ ((at_ s 1).toNat : Int) = 47 := fun e => c1 ((u8_eq _ 47 47 rfl (by omega)).1 e)
        rw [decide_eq_false (fun h => c1 h.2), if_neg (by decide)]
        by_cases c2 : at_ s 1 = 42
        · have c2' : (((at_ s 1).toNat : Int) != 42) = false := by rw [bne_eq_false_iff_eq]; exact (u8_eq _ 42 42 rfl (by omega)).2 c2
          have hb42 : bt s 1 = 42 := by rw [hb1]; exact (u8_eq _ 42 42 rfl (by omega)).2 c2
          have hb47 : ¬ bt s 1 = 47 := by rw [hb42]; decide
          rw [decide_eq_true ⟨c, c2⟩, if_pos rfl]
          refine Ev.steps1 (f := fun k => regletref02_remark.l0 k s ((2 : Nat) : Int)) (fun k => ?_) ?_
          · rw [if_neg e1, if_pos e2, hb0, if_pos c', if_pos e3, hb1, if_neg c1', c2', regletref02_remark.j0, if_neg (by decide)]; rfl
          · by_cases h3 : 2 < s.size
            · have e4 : ((2 : Nat) : Int) < (s.size : Int) := by omega
              have hw : wrap64 (((2 : Nat) : Int) + 1) = ((3 : Nat) : Int) := by unfold wrap64; omega
              refine Ev.steps1 (f := fun k => regletref02_remark.j2 k s ((2 : Nat) : Int) false) (fun k => by rw [regletref02_remark.l0, if_pos e4, if_pos e3, if_neg hb47]) ?_
              refine Ev.steps1 (fun k => ?_) (rclose_l s hs c2 (by omega) _ 3 (Nat.le_refl _) (by omega) (Nat.le_refl _))
              rw [regletref02_remark.j2, if_neg (by decide), if_pos e3, if_pos hb42, if_neg (by decide), hw]
            · have e4 : ¬ ((2 : Nat) : Int) < (s.size : Int) := by omega
              rw [nil_drop s 2 h3]
              exact Ev.done1 fun k => by rw [regletref02_remark.l0, if_neg e4, if_pos e3, if_neg hb47]; rfl
        · have c2' : (((at_ s 1).toNat : Int) != 42) = true := by rw [bne_iff_ne]; exact fun e => c2 ((u8_eq _ 42 42 rfl (by omega)).1 e)
          rw [decide_eq_false (fun h => c2 h.2), if_neg (by decide)]
          exact Ev.done1 fun k => by rw [if_neg e1, if_pos e2, hb0, if_pos c', if_pos e3, hb1, if_neg c1', c2', regletref02_remark.j0, if_pos rfl]; rfl
    · have c' : ¬ ((at_ s 0).toNat : Int) = 47 := fun e => c ((u8_eq _ 47 47 rfl (by omega)).1 e)
      rw [decide_eq_false (fun h => c h.1), decide_eq_false (fun h => c h.1), if_neg (by decide), if_neg (by decide)]
      exact Ev.done1 fun k => by rw [if_neg e1, if_pos e2, hb0, if_neg c', regletref02_remark.j0, if_pos rfl]; rfl
end Go.Proofs.Ytonfmnohmigjpaa.P
/- The reference's tokens, One and Fuses (regletref02) are the program's. -/
namespace Go.Proofs.Ytonfmnohmigjpaa.P
open Go.RowKit Go.Proofs.YtonfmnohmigjpaaW.PrintWords Go.Proofs.YtonfmnohmigjpaaW.PrintLast

theorem rwhite_all : ∀ n : Fin 256, regletref02_White.f (n.1 : Int) = some (whtU n.1.toUInt8) := by decide +kernel
theorem rwhite_f (c : UInt8) : regletref02_White.f (c.toNat : Int) = some (whtU c) := by
  have := rwhite_all ⟨c.toNat, c.toNat_lt⟩; rw [u8_fin] at this; exact this
/-- The last steps: a token, or what it is refused for. -/
def lastG (l : List UInt8) (k n : Int) : Int × Int := if n = 0 then longT l else (k, n)
/-- The first token by the reference's way. -/
theorem first_ref (l : List UInt8) (b : Bool) : firstI l b =
    if b = true ∧ 0 < hdrF l then (7, (hdrF l : Int), 0) else if comI (comF l) < 0 then (0, 0, 20) else if 0 < comI (comF l) then (8, comI (comF l), 0)
    else if (longT l).2 = 0 then (0, 0, 21) else ((longT l).1, (longT l).2, 0) := by
  unfold firstI firstG
  have e : (b = true ∧ (0 : Int) < (hdrF l : Int)) ↔ (b = true ∧ 0 < hdrF l) := by
    constructor
    · rintro ⟨h1, h2⟩; exact ⟨h1, by omega⟩
    · rintro ⟨h1, h2⟩; exact ⟨h1, by omega⟩
  simp only [e]
  split
  · rfl
  · split
    · rfl
    · split
      · rfl
      · unfold longT fourF fourG
        have h10 := u8_eq (l.headD 0) 10 10 rfl (by omega)
        by_cases c : l.headD 0 = 10
        · rw [if_pos (h10.2 c), if_pos c]; rfl
        · rw [if_neg (fun x => c (h10.1 x)), if_neg c]
          by_cases h1 : 0 < (quoF l).2
          · have h1' : (0 : Int) < ((quoF l).2 : Int) := by omega
            have h1'' : ¬ ((quoF l).2 : Int) = 0 := by omega
            rw [if_pos h1', if_pos h1, if_pos h1, if_neg h1'']
          · have h1' : ¬ (0 : Int) < ((quoF l).2 : Int) := by omega
            rw [if_neg h1', if_neg h1]
            by_cases h2 : 0 < wordF l
            · have h2' : (0 : Int) < (wordF l : Int) := by omega
              have h2'' : ¬ (wordF l : Int) = 0 := by omega
              rw [if_pos h2', if_pos h2, if_pos h2, if_neg h2'']
            · have h2' : ¬ (0 : Int) < (wordF l : Int) := by omega
              rw [if_neg h2', if_neg h2]
              by_cases h3 : 0 < numF l
              · have h3' : (0 : Int) < (numF l : Int) := by omega
                have h3'' : ¬ (numF l : Int) = 0 := by omega
                rw [if_pos h3', if_pos h3, if_pos h3, if_neg h3'']
              · have h3' : ¬ (0 : Int) < (numF l : Int) := by omega
                rw [if_neg h3', if_neg h3]
                by_cases h4 : 0 < punctF l
                · have h4' : (0 : Int) < (punctF l : Int) := by omega
                  have h4'' : ¬ (punctF l : Int) = 0 := by omega
                  rw [if_pos h4', if_pos h4, if_pos h4, if_neg h4'']
                · have h4' : ¬ (0 : Int) < (punctF l : Int) := by omega
                  rw [if_neg h4', if_neg h4]
                  have h00 : ¬ 0 < ((0, 0) : Int × Nat).2 := by decide
                  rw [if_neg h00]
                  have q39 := u8_eq (l.headD 0) 39 39 rfl (by omega)
                  have q34 := u8_eq (l.headD 0) 34 34 rfl (by omega)
                  by_cases h5 : l.headD 0 = 39 ∨ l.headD 0 = 34
                  · rw [if_pos (h5.imp q39.2 q34.2), if_pos h5]; rfl
                  · rw [if_neg (fun x => h5 (x.imp q39.1 q34.1)), if_neg h5]; rfl
/-- The names of a line as the reference keeps them: all of them. -/
def lineR (lr : List ByteArray) (k : Int) (t : ByteArray) : List ByteArray := if k = 9 then [] else if k = 8 then lr else lr ++ [t]
theorem line_take (line lr : List ByteArray) (h : line = lr.take 3) (k : Int) (t : ByteArray) : lineN line k t = (lineR lr k t).take 3 := by
  unfold lineN lineR
  by_cases h9 : k = 9
  · rw [if_pos h9, if_pos h9]; rfl
  · rw [if_neg h9, if_neg h9]
    by_cases h8 : k = 8
    · rw [if_pos h8, if_neg (fun x => x.1 h8), h]
    · rw [if_neg h8, h]
      by_cases hl : lr.length < 3
      · rw [if_pos ⟨h8, by rw [List.length_take]; omega⟩, List.take_of_length_le (by omega), List.take_of_length_le (by simp; omega)]
      · rw [if_neg (fun x => hl (by have := x.2; rw [List.length_take] at this; omega)), List.take_append_of_le_length (by omega)]
theorem names_ref (line lr : List ByteArray) (h : line = lr.take 3) : namesU line = (decide (lr.length = 2) && (((rdOf ByteArray.empty lr 0).toList == [35] || (rdOf ByteArray.empty lr 0).toList == [37, 58]) && (rdOf ByteArray.empty lr 1).toList == incl)) := by
  match lr, h with
  | [], h => rw [h]; rfl
  | [a], h => rw [h]; rfl
  | [a, b], h => rw [h]; rfl
  | a :: b :: c :: r, h =>
    rw [h]
    have : decide ((a :: b :: c :: r).length = 2) = false := decide_eq_false (by simp)
    rw [this]; rfl
/-- What Tokens answers from a place on. -/
def tokR (out : List S26) (ts : List (S26 × Int)) : List S26 × Int := if errT ts = 0 then (out ++ ts.map Prod.fst, 0) else ([], errT ts)
theorem errT_cons {p : S26 × Int} {ts : List (S26 × Int)} (h : p.2 = 0) : errT (p :: ts) = errT ts := by
  unfold errT
  rw [List.find?_cons_of_neg (by simp [h])]
theorem tokR_cons (out : List S26) (p : S26 × Int) (ts : List (S26 × Int)) (h : p.2 = 0) : tokR out (p :: ts) = tokR (out ++ [p.1]) ts := by
  unfold tokR
  rw [errT_cons h, List.map_cons, List.append_assoc]; rfl
theorem tokens_ev (s : ByteArray) (hs : s.size ≤ 100000) : ∀ (d at0 : Nat) (sp : Bool) (line lr : List ByteArray) (out : List S26), s.size - at0 ≤ d → at0 ≤ s.size → line = lr.take 3 → out.length ≤ at0 → lr.length ≤ at0 →
    Ev (fun k => regletref02_Tokens.l0 k s out lr (at0 : Int) sp) (tokR out (toksF at0 sp line ((L s).drop at0))) := by
  intro d
  have fin : ∀ (at0 : Nat) (sp : Bool) (line lr : List ByteArray) (out : List S26), ¬ at0 < s.size → Ev (fun k => regletref02_Tokens.l0 k s out lr (at0 : Int) sp) (tokR out (toksF at0 sp line ((L s).drop at0))) := by
    intro at0 sp line lr out h
    have e1 : ¬ (at0 : Int) < (s.size : Int) := by omega
    rw [nil_drop s at0 h, toksF_nil]
    have : tokR out [] = (out, 0) := by
      show (out ++ [], (0 : Int)) = _
      rw [List.append_nil]
    rw [this]
    exact Ev.done1 fun k => by rw [regletref02_Tokens.l0, if_neg e1]
  induction d with
  | zero => exact fun at0 sp line lr out h _ _ _ _ => fin at0 sp line lr out (by omega)
  | succ d ih =>
    intro at0 sp line lr out hd h1 hl ho hlr
    by_cases hi : at0 < s.size
    · have e1 : (at0 : Int) < (s.size : Int) := by omega
      have e2 : (0 : Int) ≤ (at0 : Int) := by omega
      have e3 : (at0 : Int) ≤ (s.size : Int) := by omega
      have hw1 : wrap64 ((at0 : Int) + 1) = ((at0 + 1 : Nat) : Int) := by unfold wrap64; omega
      have hD := drop_at s at0 hi
      have hx : L (s.extract ((at0 : Nat) : Int).toNat s.size) = (L s).drop at0 := by
        rw [Int.toNat_natCast, L_extract, List.take_of_length_le (by rw [List.length_drop, L_length]; omega)]
      have hxs : (s.extract ((at0 : Nat) : Int).toNat s.size).size = s.size - at0 := by rw [← L_length, hx, List.length_drop, L_length]
      cases hwh : whtU (at_ s at0) with
      | true =>
        rw [hD, toksF_white _ _ _ _ _ hwh]
        refine Ev.steps1 (fun k => ?_) (ih (at0 + 1) true line lr out (by omega) (by omega) hl (by omega) (by omega))
        rw [regletref02_Tokens.l0, if_pos e1, if_pos e2, btA, rwhite_f, Option.bind_some, hwh, if_pos rfl, hw1]
      | false =>
        have hN := names_ref line lr hl
        -- j4: a token of n bytes, or a quote that does not end
        have H4 : ∀ k n : Int, (n = 0 → firstI ((L s).drop at0) (namesU line) = (0, 0, 21)) → (n ≠ 0 → firstI ((L s).drop at0) (namesU line) = (k, n, 0)) →
            Ev (fun q => regletref02_Tokens.j4 q s out lr (at0 : Int) sp k n) (tokR out (toksF at0 sp line ((L s).drop at0))) := by
          intro k n hn0 hn1
          by_cases hn : n = 0
          · have hf := hn0 hn
            rw [hD] at hf ⊢
            rw [toksF_err at0 sp line _ _ hwh 0 0 21 (by decide) hf]
            exact Ev.done1 fun q => by rw [regletref02_Tokens.j4, if_pos hn]; rfl
          · have hf := hn1 hn
            have hok := first_ok ((L s).drop at0) (by rw [hD]; simp) (namesU line)
            rw [hf] at hok
            have hok : 0 < n ∧ n ≤ (((L s).drop at0).length : Int) := by
              rcases hok with h | h
              · exact h.2
              · rcases h.2.2 with x | x
                · exact absurd (show (0 : Int) = 20 from x) (by decide)
                · exact absurd (show (0 : Int) = 21 from x) (by decide)
            rw [List.length_drop, L_length] at hok
            obtain ⟨m, rfl⟩ : ∃ m : Nat, n = (m : Int) := ⟨n.toNat, by omega⟩
            have hw : wrap64 ((at0 : Int) + (m : Int)) = ((at0 + m : Nat) : Int) := by unfold wrap64; omega
            have f1 : (at0 : Int) ≤ ((at0 + m : Nat) : Int) := by omega
            have f2 : ((at0 + m : Nat) : Int) ≤ (s.size : Int) := by omega
            have f3 : out.length < 2932031007402 := by omega
            have f4 : lr.length < 8796093022208 := by omega
            have hT : s.extract ((at0 : Nat) : Int).toNat ((at0 + m : Nat) : Int).toNat = textOf ((L s).drop at0) (m : Int) := by
              refine ext_L ?_
              rw [Int.toNat_natCast, Int.toNat_natCast, L_extract, textOf_L, Int.toNat_natCast, Nat.add_sub_cancel_left]
            have hts : toksF at0 sp line ((L s).drop at0) = tokOf at0 sp ((L s).drop at0) (k, (m : Int), 0) :: toksF (at0 + m) false (lineN line k (textOf ((L s).drop at0) m)) (((L s).drop at0).drop m) := by
              have := toksF_tok at0 sp line (at_ s at0) ((L s).drop (at0 + 1)) hwh k m (by rw [← hD]; exact hf)
              rw [← hD, Int.toNat_natCast] at this
              exact this
            rw [hts, tokR_cons _ _ _ rfl, List.drop_drop]
            have hnext := ih (at0 + m) false (lineN line k (textOf ((L s).drop at0) m)) (lineR lr k (textOf ((L s).drop at0) m)) (out ++ [(tokOf at0 sp ((L s).drop at0) (k, (m : Int), 0)).1]) (by omega) (by omega) (line_take line lr hl _ _) (by rw [List.length_append, List.length_singleton]; omega) (by
              unfold lineR
              split
              · exact Nat.zero_le _
              · split
                · omega
                · rw [List.length_append, List.length_singleton]; omega)
            have hy : ([(⟨k, textOf ((L s).drop at0) (m : Int), (at0 : Int), ((at0 + m : Nat) : Int), sp⟩ : S26)] : List S26) = [(tokOf at0 sp ((L s).drop at0) (k, (m : Int), 0)).1] := rfl
            refine Ev.steps1 (fun q => ?_) hnext
            rw [regletref02_Tokens.j4, if_neg hn, if_pos e2, hw, if_pos f1, if_pos f2, if_pos f3, Option.bind_some, hT, hy]
            unfold lineR
            by_cases h9 : k = 9
            · rw [if_pos h9, if_pos h9]
            · rw [if_neg h9, if_neg h9]
              by_cases h8 : k = 8
              · rw [if_pos h8, if_pos h8]
              · rw [if_neg h8, if_neg h8, if_pos f4]
        have hfr := first_ref ((L s).drop at0) (namesU line)
        -- j3: behind the comment
        have H3 : ¬ (namesU line = true ∧ 0 < hdrF ((L s).drop at0)) → Ev (fun q => regletref02_Tokens.j3 q s out lr (at0 : Int) sp 8 (comI (comF ((L s).drop at0)))) (tokR out (toksF at0 sp line ((L s).drop at0))) := by
          intro hno
          rw [if_neg hno] at hfr
          by_cases c1 : comI (comF ((L s).drop at0)) < 0
          · rw [if_pos c1] at hfr
            have hf := hfr
            rw [hD] at hf
            have hts : toksF at0 sp line ((L s).drop at0) = [tokOf at0 sp ((L s).drop at0) (0, 0, 20)] := by
              have := toksF_err at0 sp line _ _ hwh 0 0 20 (by decide) hf
              rwa [← hD] at this
            rw [hts]
            exact Ev.done1 fun q => by rw [regletref02_Tokens.j3, if_pos c1]; rfl
          · rw [if_neg c1] at hfr
            by_cases c2 : comI (comF ((L s).drop at0)) = 0
            · rw [if_neg (by omega)] at hfr
              have hlg := rlong_f (s.extract ((at0 : Nat) : Int).toNat s.size) (by rw [hxs]; omega) (by rw [hxs]; omega)
              rw [hx] at hlg
              refine Ev.steps1 (f := fun q => (regletref02_longest.f q (s.extract ((at0 : Nat) : Int).toNat s.size)).bind fun bt252 => (regletref02_Tokens.j4 q s out lr (at0 : Int) sp bt252.1 bt252.2)) (fun q => by rw [regletref02_Tokens.j3, if_neg c1, if_pos c2, if_pos e2, if_pos e3]) (Ev.bind hlg (H4 _ _ (fun h => ?_) (fun h => ?_)))
              · rw [hfr, if_pos h]
              · rw [hfr, if_neg h]
            · rw [if_pos (by omega)] at hfr
              exact Ev.steps1 (fun q => by rw [regletref02_Tokens.j3, if_neg c1, if_neg c2]) (H4 8 _ (fun h => absurd h c2) (fun _ => hfr))
        -- j2: behind the header
        have hcm : Ev (fun q => regletref02_Tokens.j2 q s out lr (at0 : Int) sp 7 0) (tokR out (toksF at0 sp line ((L s).drop at0))) → True := fun _ => trivial
        have H2 : ∀ k : Int, ¬ (namesU line = true ∧ 0 < hdrF ((L s).drop at0)) → Ev (fun q => regletref02_Tokens.j2 q s out lr (at0 : Int) sp k 0) (tokR out (toksF at0 sp line ((L s).drop at0))) := by
          intro k hno
          have hrm := rremark_f (s.extract ((at0 : Nat) : Int).toNat s.size) (by rw [hxs]; omega)
          rw [hx] at hrm
          exact Ev.steps1 (f := fun q => (regletref02_remark.f q (s.extract ((at0 : Nat) : Int).toNat s.size)).bind fun t251 => (regletref02_Tokens.j3 q s out lr (at0 : Int) sp 8 t251)) (fun q => by rw [regletref02_Tokens.j2, if_pos rfl, if_pos e2, if_pos e3]) (Ev.bind hrm (H3 hno))
        have H1 : Ev (fun q => regletref02_Tokens.j1 q s out lr (at0 : Int) sp 0 0 (namesU line)) (tokR out (toksF at0 sp line ((L s).drop at0))) := by
          cases hnm : namesU line with
          | false =>
            exact Ev.steps1 (fun q => by rw [regletref02_Tokens.j1, if_neg (by decide)]) (H2 0 (by rw [hnm]; simp))
          | true =>
            have hna := rnamed_f (s.extract ((at0 : Nat) : Int).toNat s.size) (by rw [hxs]; omega) (by rw [hxs]; omega)
            rw [hx] at hna
            refine Ev.steps1 (f := fun q => (regletref02_named.f q (s.extract ((at0 : Nat) : Int).toNat s.size)).bind fun t250 => (regletref02_Tokens.j2 q s out lr (at0 : Int) sp 7 t250)) (fun q => by rw [regletref02_Tokens.j1, if_pos rfl, if_pos e2, if_pos e3]) (Ev.bind hna ?_)
            by_cases c : 0 < hdrF ((L s).drop at0)
            · have c0 : ¬ ((hdrF ((L s).drop at0) : Nat) : Int) = 0 := by omega
              have c1 : ¬ ((hdrF ((L s).drop at0) : Nat) : Int) < 0 := by omega
              rw [if_pos ⟨hnm, c⟩] at hfr
              refine Ev.steps1 (f := fun q => regletref02_Tokens.j3 q s out lr (at0 : Int) sp 7 (hdrF ((L s).drop at0) : Nat)) (fun q => by rw [regletref02_Tokens.j2, if_neg c0]) ?_
              exact Ev.steps1 (fun q => by rw [regletref02_Tokens.j3, if_neg c1, if_neg c0]) (H4 7 _ (fun h => absurd h c0) (fun _ => hfr))
            · have c0 : hdrF ((L s).drop at0) = 0 := by omega
              rw [c0]
              exact H2 7 (fun h => c h.2)
        refine Ev.steps1 (f := fun q => regletref02_Tokens.j1 q s out lr (at0 : Int) sp 0 0 (namesU line)) (fun q => ?_) H1
        rw [regletref02_Tokens.l0, if_pos e1, if_pos e2, btA, rwhite_f, Option.bind_some, hwh, if_neg (by decide), hN]
        by_cases c2 : lr.length = 2
        · have c2' : (lr.length : Int) = 2 := by omega
          have c3 : (0 : Int) < (lr.length : Int) := by omega
          have c4 : (1 : Int) < (lr.length : Int) := by omega
          rw [if_pos c2', if_pos c3, decide_eq_true c2, Bool.true_and]
          by_cases c5 : (rdOf ByteArray.empty lr 0).toList = [35]
          · rw [if_pos c5, if_pos c4, beq_iff_eq.2 c5, Bool.true_or, Bool.true_and]; rfl
          · rw [if_neg c5, beq_eq_false_iff_ne.2 c5, Bool.false_or]
            by_cases c6 : (rdOf ByteArray.empty lr 0).toList = [37, 58]
            · rw [if_pos c6, if_pos c4, beq_iff_eq.2 c6, Bool.true_and]; rfl
            · rw [if_neg c6, beq_eq_false_iff_ne.2 c6, Bool.false_and]
        · have c2' : ¬ (lr.length : Int) = 2 := by omega
          rw [if_neg c2', decide_eq_false c2, Bool.false_and]
    · exact fin at0 sp line lr out hi
theorem rtokens_f (s : ByteArray) (hs : s.size ≤ 100000) : Ev (fun k => regletref02_Tokens.f k s) (tokR [] (toksF 0 false [] (L s))) := by
  have := tokens_ev s hs _ 0 false [] [] [] (Nat.le_refl _) (Nat.zero_le _) rfl (Nat.le_refl _) (Nat.le_refl _)
  rw [List.drop_zero] at this
  exact this
/-- Where more than one token is, the first one is not the whole text. -/
theorem first_less (n i : Nat) (sp : Bool) (line : List ByteArray) (l : List UInt8) (hl : l.length = n) : ∀ p q r, toksF i sp line l = p :: q :: r → p.1.f1.size < l.length := by
  refine toks_ind (fun i sp line l ts => ∀ p q r, ts = p :: q :: r → p.1.f1.size < l.length) ?_ ?_ ?_ ?_ n i sp line l hl
  · intro i sp line p q r h; cases h
  · intro i sp line a r hw ih p q z h
    have := ih p q z h
    rw [List.length_cons]; omega
  · intro i sp line a r k m hw hf h0 hm ih p q z h
    obtain ⟨rfl, h2⟩ := List.cons.inj h
    have hd : (a :: r).drop m ≠ [] := by
      intro e
      rw [e, toksF_nil] at h2
      cases h2
    show (textOf (a :: r) m).size < _
    rw [← L_length, textOf_L, Int.toNat_natCast, List.length_take]
    rcases Nat.lt_or_ge m (a :: r).length with h3 | h3
    · omega
    · exact absurd (List.drop_eq_nil_of_le h3) hd
  · intro i sp line a r e hw hf he p q z h
    cases h
theorem errT_ne {ts : List (S26 × Int)} (h : errT ts ≠ 0) : ∃ p ∈ ts, p.2 ≠ 0 := by
  unfold errT at h
  cases hf : ts.find? (fun p => p.2 != 0) with
  | none => rw [hf] at h; exact absurd rfl h
  | some q =>
    have h1 := List.find?_some hf
    exact ⟨q, List.mem_of_find?_eq_some hf, by simpa using h1⟩
theorem errT_zeros {ts : List (S26 × Int)} (h : errT ts = 0) : ∀ p ∈ ts, p.2 = 0 := by
  intro p hp
  unfold errT at h
  cases hf : ts.find? (fun p => p.2 != 0) with
  | none =>
    have := List.find?_eq_none.1 hf p hp
    simpa using this
  | some q =>
    rw [hf] at h
    have := List.find?_some hf
    have h : q.2 = 0 := h
    rw [h] at this
    exact absurd this (by decide)
theorem not_whole (s : ByteArray) (p q : S26 × Int) (r : List (S26 × Int)) (h : toksF 0 false [] (L s) = p :: q :: r) : ¬ p.1.f1.toList = s.toList := by
  intro e
  have := first_less _ 0 false [] (L s) rfl p q r h
  rw [toList_L, toList_L] at e
  have := congrArg List.length e
  rw [L_length] at this
  omega
theorem rone_f (s : ByteArray) (hs : s.size ≤ 100000) : Ev (fun k => regletref02_One.f k s) (oneT s) := by
  unfold regletref02_One.f
  refine Ev.bind (rtokens_f s hs) ?_
  unfold oneT
  obtain ⟨ts, hts⟩ : ∃ ts, ts = toksF 0 false [] (L s) := ⟨_, rfl⟩
  rw [← hts]
  unfold tokR
  by_cases he : errT ts = 0
  · rw [if_pos he]
    have hz := errT_zeros he
    match ts, hts, hz with
    | [], _, _ => exact Ev.congr (fun k => rfl) (Ev.now _)
    | [p], _, hz =>
      have h0 := hz p (List.mem_singleton.2 rfl)
      by_cases c : p.1.f1.toList = s.toList
      · have hr : (if p.2 = 0 ∧ p.1.f1.toList = s.toList then (p.1.f0, true) else ((0 : Int), false)) = (p.1.f0, true) := if_pos ⟨h0, c⟩
        refine Ev.congr (fun k => ?_) (Ev.now _)
        show (if (0 : Int) = 0 then (if (1 : Int) = 1 then (if (0 : Int) < 1 then (if p.1.f1.toList = s.toList then some (p.1.f0, true) else some ((0 : Int), false)) else none) else some ((0 : Int), false)) else some ((0 : Int), false)) =
          some (if p.2 = 0 ∧ p.1.f1.toList = s.toList then (p.1.f0, true) else ((0 : Int), false))
        rw [hr, if_pos c]; rfl
      · have hr : (if p.2 = 0 ∧ p.1.f1.toList = s.toList then (p.1.f0, true) else ((0 : Int), false)) = ((0 : Int), false) := if_neg (fun x => c x.2)
        refine Ev.congr (fun k => ?_) (Ev.now _)
        show (if (0 : Int) = 0 then (if (1 : Int) = 1 then (if (0 : Int) < 1 then (if p.1.f1.toList = s.toList then some (p.1.f0, true) else some ((0 : Int), false)) else none) else some ((0 : Int), false)) else some ((0 : Int), false)) =
          some (if p.2 = 0 ∧ p.1.f1.toList = s.toList then (p.1.f0, true) else ((0 : Int), false))
        rw [hr, if_neg c]; rfl
    | p :: q :: r, hts, _ =>
      have c := not_whole s p q r hts.symm
      refine Ev.congr (fun k => ?_) (Ev.now _)
      dsimp only
      have e1 : ¬ (((([] : List S26) ++ (p :: q :: r).map Prod.fst).length : Nat) : Int) = 1 := by simp; omega
      rw [if_pos rfl, if_neg e1, if_neg (fun x => c x.2)]
  · rw [if_neg he]
    refine Ev.congr (fun k => if_neg he) ?_
    obtain ⟨x, hx, hx2⟩ := errT_ne he
    match ts, hts, hx with
    | [p], _, hx =>
      have : x = p := List.mem_singleton.1 hx
      subst this
      dsimp only
      rw [if_neg (fun h => hx2 h.1)]
      exact Ev.now _
    | p :: q :: r, hts, _ =>
      have c := not_whole s p q r hts.symm
      dsimp only
      rw [if_neg (fun h => c h.2)]
      exact Ev.now _
theorem fuse_err (want : List ByteArray) (ts : List (S26 × Int)) (x : S26 × Int) (hx : x ∈ ts) (hx2 : x.2 ≠ 0) : ∀ n, fuseG want n ts = true := by
  induction ts with
  | nil => cases hx
  | cons p r ih =>
    intro n
    rw [fuseG]
    split
    · rename_i h
      rcases List.mem_cons.1 hx with e | e
      · rw [e] at hx2; exact absurd h.1 hx2
      · exact ih e (n + 1)
    · rfl
theorem rfuse_f (a b : ByteArray) (hs : a.size + b.size ≤ 100000) : Ev (fun k => regletref02_Fuses.f k a b) (fuseT a b) := by
  unfold regletref02_Fuses.f
  refine Ev.bind (rone_f a (by omega)) (Ev.bind (rone_f b (by omega)) ?_)
  unfold fuseT
  have hsz : (a ++ b).size ≤ 100000 := by rw [ByteArray.size_append]; exact hs
  cases h1 : (oneT a).2 with
  | false => exact Ev.congr (fun k => rfl) (Ev.now _)
  | true =>
    cases h2 : (oneT b).2 with
    | false => exact Ev.congr (fun k => rfl) (Ev.now _)
    | true =>
      have e0 : a.size + b.size ≤ 9223372036854775807 := by omega
      refine Ev.congr (fun k => by rw [if_pos rfl, if_pos rfl, if_pos e0]) (Ev.bind (rtokens_f (a ++ b) hsz) ?_)
      rw [if_neg (show ¬ (true = false) by decide), if_neg (show ¬ (true = false) by decide)]
      obtain ⟨ts, hts⟩ : ∃ ts, ts = toksF 0 false [] (L (a ++ b)) := ⟨_, rfl⟩
      rw [← hts]
      unfold tokR
      by_cases he : errT ts = 0
      · rw [if_pos he]
        have hz := errT_zeros he
        clear hts
        match ts, hz with
        | [], _ => exact Ev.congr (fun k => rfl) (Ev.now _)
        | [p], _ =>
          refine Ev.congr (fun k => rfl) ?_
          have : fuseG [a, b] 0 [p] = true := by
            rw [fuseG]
            split
            · rfl
            · rfl
          rw [this]
          exact Ev.now _
        | [p, q], hz =>
          have z1 := hz p (by simp)
          have z2 := hz q (by simp)
          by_cases c1 : p.1.f1.toList = a.toList
          · have hv : fuseG [a, b] 0 [p, q] = (q.1.f1.toList != b.toList) := by
              rw [fuseG, if_pos ⟨z1, by decide, c1⟩, fuseG]
              by_cases c2 : q.1.f1.toList = b.toList
              · rw [if_pos ⟨z2, by decide, c2⟩, c2, bne_self_eq_false]; rfl
              · rw [if_neg (fun x => c2 x.2.2), bne_iff_ne.2 c2]
            rw [hv]
            exact Ev.congr (fun k => if_pos c1) (Ev.now _)
          · have hv : fuseG [a, b] 0 [p, q] = true := by rw [fuseG, if_neg (fun x => c1 x.2.2)]
            rw [hv]
            exact Ev.congr (fun k => if_neg c1) (Ev.now _)
        | p :: q :: x :: r, _ =>
          have hv : fuseG [a, b] 0 (p :: q :: x :: r) = true := by
            rw [fuseG]
            split
            · rw [fuseG]
              split
              · rw [fuseG, if_neg (fun h => h.2.1 rfl)]
              · rfl
            · rfl
          rw [hv]
          have e1 : ¬ (((([] : List S26) ++ (p :: q :: x :: r).map Prod.fst).length : Nat) : Int) = 2 := by simp; omega
          refine Ev.congr (fun k => ?_) (Ev.now _)
          dsimp only
          rw [if_pos rfl, if_neg e1]
      · rw [if_neg he]
        obtain ⟨x, hx, hx2⟩ := errT_ne he
        rw [fuse_err [a, b] ts x hx hx2 0]
        exact Ev.congr (fun k => if_neg he) (Ev.now _)
end Go.Proofs.Ytonfmnohmigjpaa.P
