/- Tokens at the beginning of a text, over plain lists: word, number, literal, header; and that the printed walks of scan answer these. -/
import Derived.Test.YtonfmnohmigjpaaPh0
import Derived.Test.YtonfmnohmigjpaaFE
namespace Go.Proofs.Ytonfmnohmigjpaa.P
open Go.RowKit Go.Proofs.YtonfmnohmigjpaaW.PrintWords Go.Proofs.YtonfmnohmigjpaaW.PrintLast

def ltrU (c : UInt8) : Bool := c == 95 || (decide (97 ≤ c) && decide (c ≤ 122)) || (decide (65 ≤ c) && decide (c ≤ 90))
def dgtU (c : UInt8) : Bool := decide (48 ≤ c) && decide (c ≤ 57)
def whtU (c : UInt8) : Bool := c == 32 || c == 9 || c == 11 || c == 12
def sgnU (c : UInt8) : Bool := c == 43 || c == 45
def expU (c : UInt8) : Bool := c == 101 || c == 69 || c == 112 || c == 80
theorem letter_all : ∀ n : Fin 256, scan_letter.f (n.1 : Int) = some (ltrU n.1.toUInt8) := by decide +kernel
theorem digit_all : ∀ n : Fin 256, scan_digit.f (n.1 : Int) = some (dgtU n.1.toUInt8) := by decide +kernel
theorem white_all : ∀ n : Fin 256, scan_white.f (n.1 : Int) = some (whtU n.1.toUInt8) := by decide +kernel
theorem u8_fin (c : UInt8) : c.toNat.toUInt8 = c := by simp
theorem letter_f (c : UInt8) : scan_letter.f (c.toNat : Int) = some (ltrU c) := by
  have := letter_all ⟨c.toNat, c.toNat_lt⟩; rw [u8_fin] at this; exact this
theorem digit_f (c : UInt8) : scan_digit.f (c.toNat : Int) = some (dgtU c) := by
  have := digit_all ⟨c.toNat, c.toNat_lt⟩; rw [u8_fin] at this; exact this
theorem white_f (c : UInt8) : scan_white.f (c.toNat : Int) = some (whtU c) := by
  have := white_all ⟨c.toNat, c.toNat_lt⟩; rw [u8_fin] at this; exact this

/-- How many letters and digits stand ahead. -/
def wordT : List UInt8 → Nat
  | [] => 0
  | c :: r => if ltrU c || dgtU c then wordT r + 1 else 0
def wordF : List UInt8 → Nat
  | [] => 0
  | c :: r => if ltrU c then wordT r + 1 else 0
theorem nil_drop (s : ByteArray) (i : Nat) (h : ¬ i < s.size) : (L s).drop i = [] := List.drop_eq_nil_of_le (by rw [L_length]; omega)
theorem w64_1 (s : ByteArray) (hs : s.size ≤ 140737488351232) (i n : Nat) (h : i ≤ s.size) (hn : n ≤ 1000) : wrap64 ((i : Int) + (n : Int)) = ((i + n : Nat) : Int) := w64_add i s.size n h hs hn
theorem word_l (s : ByteArray) (hs : s.size ≤ 140737488351232) : ∀ (d i : Nat), 0 < i → s.size - i ≤ d → i ≤ s.size → Ev (fun k => scan_word.l0 k s (i : Int)) ((i + wordT ((L s).drop i) : Nat) : Int) := by
  intro d
  have fin : ∀ i, ¬ i < s.size → Ev (fun k => scan_word.l0 k s (i : Int)) ((i + wordT ((L s).drop i) : Nat) : Int) := by
    intro i h
    refine Ev.done1 fun k => ?_
    rw [scan_word.l0, if_neg (by omega), nil_drop s i h]; rfl
  induction d with
  | zero => exact fun i _ h _ => fin i (by omega)
  | succ d ih =>
    intro i h0 hd h1
    by_cases hi : i < s.size
    · rw [drop_at s i hi]
      have hw := w64_1 s hs i 1 (by omega) (by omega)
      by_cases c : (ltrU (at_ s i) || dgtU (at_ s i)) = true
      · have e : i + wordT (at_ s i :: (L s).drop (i + 1)) = (i + 1) + wordT ((L s).drop (i + 1)) := by rw [wordT, if_pos c]; omega
        rw [e]
        refine Ev.steps1 (fun k => ?_) (ih (i + 1) (by omega) (by omega) (by omega))
        rw [scan_word.l0, if_pos (by omega), if_pos (by omega), btA, letter_f, Option.bind_some]
        cases hl : ltrU (at_ s i) with
        | true => rw [if_pos rfl]; exact congrArg _ hw
        | false =>
          rw [hl, Bool.false_or] at c
          rw [if_neg (by decide), if_pos (by omega), digit_f, Option.bind_some, c, if_pos rfl]; exact congrArg _ hw
      · have e : i + wordT (at_ s i :: (L s).drop (i + 1)) = i := by rw [wordT, if_neg c]; rfl
        rw [e]
        refine Ev.done1 fun k => ?_
        rw [Bool.or_eq_true, not_or, Bool.not_eq_true, Bool.not_eq_true] at c
        rw [scan_word.l0, if_pos (by omega), if_pos (by omega), btA, letter_f, Option.bind_some, c.1, if_neg (by decide), if_pos (by omega), digit_f, Option.bind_some, c.2, if_neg (by decide)]
    · exact fin i hi
theorem word_f (s : ByteArray) (hs : s.size ≤ 140737488351232) : Ev (fun k => scan_word.f k s) ((wordF (L s) : Nat) : Int) := by
  by_cases hi : 0 < s.size
  · have hD := drop_at s 0 hi
    rw [List.drop_zero] at hD
    rw [hD]
    have hw := w64_1 s hs 0 1 (by omega) (by omega)
    cases c : ltrU (at_ s 0) with
    | true =>
      have h := word_l s hs _ 1 (by omega) (Nat.le_refl _) (by omega)
      rw [show wordF (at_ s 0 :: (L s).drop (0 + 1)) = 1 + wordT ((L s).drop 1) by rw [wordF, if_pos c]; exact Nat.add_comm _ _]
      refine Ev.steps1 (f := fun k => scan_word.l0 k s ((1 : Nat) : Int)) (fun k => ?_) h
      show scan_word.l0 (k + 1) s ((0 : Nat) : Int) = _
      rw [scan_word.l0, if_pos (by omega), if_pos (by omega), btA, letter_f, Option.bind_some, c, if_pos rfl]; exact congrArg _ hw
    | false =>
      rw [show wordF (at_ s 0 :: (L s).drop (0 + 1)) = 0 by rw [wordF, c]; rfl]
      refine Ev.done1 fun k => ?_
      show scan_word.l0 (k + 1) s ((0 : Nat) : Int) = _
      rw [scan_word.l0, if_pos (by omega), if_pos (by omega), btA, letter_f, Option.bind_some, c, if_neg (by decide), if_neg (by omega)]
  · have : L s = [] := by have := nil_drop s 0 hi; rwa [List.drop_zero] at this
    rw [this]
    refine Ev.done1 fun k => ?_
    show scan_word.l0 (k + 1) s ((0 : Nat) : Int) = _
    rw [scan_word.l0, if_neg (by omega)]; rfl

/-- How far a number goes on. -/
def numT : List UInt8 → Nat
  | [] => 0
  | [a] => if dgtU a || ltrU a || a == 46 then 1 else 0
  | a :: b :: r => if expU a && sgnU b then numT r + 2 else if dgtU a || ltrU a || a == 46 then numT (b :: r) + 1 else 0
def numF : List UInt8 → Nat
  | [] => 0
  | [a] => if dgtU a then 1 else 0
  | a :: b :: r => if dgtU a then numT (b :: r) + 1 else if a == 46 && dgtU b then numT r + 2 else 0
theorem expo_all : ∀ n : Fin 256, (strings_IndexByte.f (⟨#[101, 69, 112, 80]⟩ : ByteArray) (n.1 : Int)).map (fun t => decide (t ≥ 0)) = some (expU n.1.toUInt8) := by decide +kernel
theorem expo_f (c : UInt8) : ∃ t, strings_IndexByte.f (⟨#[101, 69, 112, 80]⟩ : ByteArray) (c.toNat : Int) = some t ∧ (expU c = true ↔ t ≥ 0) := by
  have := expo_all ⟨c.toNat, c.toNat_lt⟩
  rw [u8_fin, Option.map_eq_some_iff] at this
  obtain ⟨t, h1, h2⟩ := this
  exact ⟨t, h1, by rw [← h2, decide_eq_true_iff]⟩
theorem sgn_f (c : UInt8) : ((c.toNat : Int) = 43 ↔ c = 43) ∧ ((c.toNat : Int) = 45 ↔ c = 45) := ⟨u8_eq _ 43 43 rfl (by omega), u8_eq _ 45 45 rfl (by omega)⟩
theorem num_j3 (s : ByteArray) (i k : Nat) (hi : i < s.size) : scan_number.j3 (k + 1) s (i : Int) false = if dgtU (at_ s i) || ltrU (at_ s i) || at_ s i == 46 then scan_number.l0 k s (wrap64 ((i : Int) + 1)) else some (i : Int) := by
  rw [scan_number.j3, if_neg (by decide), if_pos (by omega), if_pos (by omega), btA, digit_f, Option.bind_some]
  cases hd : dgtU (at_ s i) with
  | true => rw [if_pos rfl]; rfl
  | false =>
    rw [if_neg (by decide), letter_f, Option.bind_some]
    cases hl : ltrU (at_ s i) with
    | true => rw [if_pos rfl]; rfl
    | false =>
      rw [if_neg (by decide)]
      by_cases c : at_ s i = 46
      · rw [if_pos ((u8_eq _ 46 46 rfl (by omega)).2 c), c]; rfl
      · rw [if_neg (fun e => c ((u8_eq _ 46 46 rfl (by omega)).1 e)), if_neg (by simp [c])]
theorem num_l (s : ByteArray) (hs : s.size ≤ 140737488351232) : ∀ (d i : Nat), s.size - i ≤ d → i ≤ s.size → Ev (fun k => scan_number.l0 k s (i : Int)) ((i + numT ((L s).drop i) : Nat) : Int) := by
  intro d
  induction d using Nat.strongRecOn with
  | _ d ih =>
  intro i hd h1
  by_cases hi : i < s.size
  · obtain ⟨t, ht, hx⟩ := expo_f (at_ s i)
    have hw := w64_1 s hs i 1 (by omega) (by omega)
    have hw2 := w64_1 s hs i 2 (by omega) (by omega)
    have step1 : numT ((L s).drop i) = (if dgtU (at_ s i) || ltrU (at_ s i) || at_ s i == 46 then numT ((L s).drop (i + 1)) + 1 else 0) →
        (∀ k, scan_number.l0 (k + 1) s (i : Int) = scan_number.j3 k s (i : Int) false) → Ev (fun k => scan_number.l0 k s (i : Int)) ((i + numT ((L s).drop i) : Nat) : Int) := by
      intro e hk
      refine Ev.steps1 hk ?_
      rw [e]
      by_cases c : (dgtU (at_ s i) || ltrU (at_ s i) || at_ s i == 46) = true
      · rw [if_pos c, show i + (numT ((L s).drop (i + 1)) + 1) = (i + 1) + numT ((L s).drop (i + 1)) by omega]
        refine Ev.steps1 (fun k => ?_) (ih (s.size - (i + 1)) (by omega) (i + 1) (Nat.le_refl _) (by omega))
        rw [num_j3 s i k hi, if_pos c]; exact congrArg _ hw
      · rw [if_neg c]
        refine Ev.done1 fun k => ?_
        rw [num_j3 s i k hi, if_neg c]; rfl
    by_cases h2 : i + 1 < s.size
    · have hD : (L s).drop i = at_ s i :: at_ s (i + 1) :: (L s).drop (i + 1 + 1) := by rw [drop_at s i hi, drop_at s (i + 1) h2]
      by_cases ce : expU (at_ s i) = true
      · have hb : ∀ k, scan_number.l0 (k + 1) s (i : Int) = scan_number.j3 k s (i : Int) (sgnU (at_ s (i + 1))) := by
          intro k
          have := sgn_f (at_ s (i + 1))
          rw [scan_number.l0, if_pos (by omega), if_pos (by omega), btA, ht, Option.bind_some, if_pos (hx.1 ce), show wrap64 ((i : Int) + 1) = ((i + 1 : Nat) : Int) from hw, if_pos (by omega), if_pos (by omega), btA]
          by_cases c : at_ s (i + 1) = 43
          · rw [if_pos (this.1.2 c), c]; rfl
          · rw [if_neg (fun e => c (this.1.1 e))]
            by_cases c2 : at_ s (i + 1) = 45
            · rw [show (((at_ s (i + 1)).toNat : Int) == 45) = true from beq_iff_eq.2 (this.2.2 c2), c2]; rfl
            · rw [show (((at_ s (i + 1)).toNat : Int) == 45) = false from beq_eq_false_iff_ne.2 (fun e => c2 (this.2.1 e))]
              rw [show sgnU (at_ s (i + 1)) = false by unfold sgnU; rw [beq_eq_false_iff_ne.2 c, beq_eq_false_iff_ne.2 c2]; rfl]
        cases cs : sgnU (at_ s (i + 1)) with
        | true =>
          rw [hD, numT, if_pos (by rw [ce, cs]; rfl), show i + (numT ((L s).drop (i + 1 + 1)) + 2) = (i + 2) + numT ((L s).drop (i + 2)) by rw [show i + 1 + 1 = i + 2 from rfl]; omega]
          refine Ev.two (fun k => ?_) (ih (s.size - (i + 2)) (by omega) (i + 2) (Nat.le_refl _) (by omega))
          show scan_number.l0 (k + 1 + 1) s (i : Int) = _
          rw [hb, cs, scan_number.j3, if_pos rfl]; exact congrArg _ hw2
        | false =>
          refine step1 ?_ (fun k => by rw [hb, cs])
          rw [hD, numT, if_neg (by rw [cs]; simp), drop_at s (i + 1) h2]
      · refine step1 ?_ (fun k => ?_)
        · rw [hD, numT, if_neg (by simp [ce]), drop_at s (i + 1) h2]
        · rw [scan_number.l0, if_pos (by omega), if_pos (by omega), btA, ht, Option.bind_some, if_neg (fun e => ce (hx.2 e))]
    · refine step1 ?_ (fun k => ?_)
      · rw [drop_at s i hi, nil_drop s (i + 1) h2, numT, numT]
      · rw [scan_number.l0, if_pos (by omega), if_pos (by omega), btA, ht, Option.bind_some]
        by_cases ce : t ≥ 0
        · rw [if_pos ce, show wrap64 ((i : Int) + 1) = ((i + 1 : Nat) : Int) from hw, if_neg (by omega)]
        · rw [if_neg ce]
  · refine Ev.done1 fun k => ?_
    rw [scan_number.l0, if_neg (by omega), nil_drop s i hi]; rfl
theorem num_f (s : ByteArray) (hs : s.size ≤ 140737488351232) : Ev (fun k => scan_number.f k s) ((numF (L s) : Nat) : Int) := by
  unfold scan_number.f
  by_cases hi : 0 < s.size
  · have hD := drop_at s 0 hi
    rw [List.drop_zero] at hD
    have hne : ¬ s.toList = ([] : List UInt8) := by rw [toList_L, hD]; simp
    refine Ev.congr (fun k => by rw [if_neg hne, if_pos (by omega), show bt s 0 = ((at_ s 0).toNat : Int) from btA s 0, digit_f, Option.bind_some]) ?_
    cases c : dgtU (at_ s 0) with
    | true =>
      have e : numF (L s) = 1 + numT ((L s).drop 1) := by
        rw [hD]
        cases h : (L s).drop (0 + 1) with
        | nil => rw [numF, if_pos c]; rfl
        | cons b r => rw [numF, if_pos c]; show _ = 1 + numT (b :: r); omega
      rw [e]
      refine Ev.two (f := fun k => scan_number.l0 k s ((1 : Nat) : Int)) (fun k => ?_) (num_l s hs _ 1 (Nat.le_refl _) (by omega))
      rw [scan_number.j0, if_pos rfl, scan_number.j1]; rfl
    | false =>
      by_cases h2 : 1 < s.size
      · rw [hD, drop_at s (0 + 1) h2, numF, c, if_neg (by decide)]
        by_cases c46 : at_ s 0 = 46
        · cases cd : dgtU (at_ s 1) with
          | true =>
            rw [if_pos (by rw [c46]; rfl), show numT ((L s).drop (0 + 1 + 1)) + 2 = 2 + numT ((L s).drop 2) from Nat.add_comm _ _]
            refine Ev.two (f := fun k => scan_number.l0 k s ((2 : Nat) : Int)) (fun k => ?_) (num_l s hs _ 2 (Nat.le_refl _) (by omega))
            rw [scan_number.j0, if_neg (by decide), if_pos (by omega), if_pos (by omega), show bt s 0 = ((at_ s 0).toNat : Int) from btA s 0, if_pos ((u8_eq _ 46 46 rfl (by omega)).2 c46), if_pos (by omega), show bt s 1 = ((at_ s 1).toNat : Int) from btA s 1, digit_f, Option.bind_some, cd, if_pos rfl, scan_number.j1]; rfl
          | false =>
            rw [if_neg (by simp)]
            refine Ev.done1 fun k => ?_
            rw [scan_number.j0, if_neg (by decide), if_pos (by omega), if_pos (by omega), show bt s 0 = ((at_ s 0).toNat : Int) from btA s 0, if_pos ((u8_eq _ 46 46 rfl (by omega)).2 c46), if_pos (by omega), show bt s 1 = ((at_ s 1).toNat : Int) from btA s 1, digit_f, Option.bind_some, cd, if_neg (by decide)]; rfl
        · rw [if_neg (by simp [c46])]
          refine Ev.done1 fun k => ?_
          rw [scan_number.j0, if_neg (by decide), if_pos (by omega), if_pos (by omega), show bt s 0 = ((at_ s 0).toNat : Int) from btA s 0, if_neg (fun e => c46 ((u8_eq _ 46 46 rfl (by omega)).1 e))]; rfl
      · rw [hD, nil_drop s (0 + 1) h2, numF, c]
        refine Ev.done1 fun k => ?_
        rw [scan_number.j0, if_neg (by decide), if_neg (by omega)]; rfl
  · have h0 : L s = [] := by have := nil_drop s 0 hi; rwa [List.drop_zero] at this
    rw [h0]
    refine Ev.done1 fun k => ?_
    rw [if_pos (by rw [toList_L, h0]), scan_number.j0, if_neg (by decide), if_neg (by omega)]; rfl

/-- Where a literal ends: behind its quote. -/
def litT (q : UInt8) : List UInt8 → Option Nat
  | [] => none
  | [c] => if c = q then some 1 else none
  | c :: d :: r => if c = q then some 1 else if c = 10 then none else if c = 92 then (if d = 10 then none else (litT q r).map (· + 2)) else (litT q (d :: r)).map (· + 1)
/-- How many bytes a literal at the beginning has. -/
def litF (q : UInt8) : List UInt8 → Nat
  | [] => 0
  | c :: r => if c = q then (if q = 39 ∧ r.head? = some 39 then 0 else match litT q r with | some n => n + 1 | none => 0) else 0
def litR (i : Nat) : Option Nat → Int
  | some n => ((i + n : Nat) : Int)
  | none => 0
theorem litR_map (i m : Nat) (o : Option Nat) : litR i (o.map (· + m)) = litR (i + m) o := by
  cases o with
  | none => rfl
  | some n => show ((i + (n + m) : Nat) : Int) = ((i + m + n : Nat) : Int); congr 1; omega
theorem lit_l (s : ByteArray) (q : UInt8) (hs : s.size ≤ 140737488351232) (hq : q ≠ 10) : ∀ (d i : Nat), s.size - i ≤ d → i ≤ s.size → 1 ≤ i → (q = 39 → i = 1 → at_ s i ≠ q) →
    Ev (fun k => scan_literal.l0 k s (q.toNat : Int) (i : Int)) (litR i (litT q ((L s).drop i))) := by
  intro d
  induction d using Nat.strongRecOn with
  | _ d ih =>
  intro i hd h1 h0 hq1
  by_cases hi : i < s.size
  · have hw := w64_1 s hs i 1 (by omega) (by omega)
    have hw2 : wrap64 (wrap64 ((i : Int) + 1) + 1) = ((i + 2 : Nat) : Int) := by rw [show wrap64 ((i : Int) + 1) = ((i + 1 : Nat) : Int) from hw]; exact w64_1 s hs (i + 1) 1 (by omega) (by omega)
    have hqe : ∀ c : UInt8, ((c.toNat : Int) = (q.toNat : Int)) ↔ c = q := fun c => ⟨fun e => UInt8.toNat_inj.1 (by omega), fun e => by rw [e]⟩
    have fq : at_ s i = q → Ev (fun k => scan_literal.l0 k s (q.toNat : Int) (i : Int)) ((i + 1 : Nat) : Int) := by
      intro e
      refine Ev.done1 fun k => ?_
      rw [scan_literal.l0, if_pos (by omega), if_pos (by omega), btA, if_pos ((hqe _).2 e)]
      by_cases c39 : (q.toNat : Int) = 39
      · rw [if_pos c39, if_neg (fun h => hq1 ((u8_eq q 39 39 rfl (by omega)).1 c39) (by omega) e)]; exact congrArg _ hw
      · rw [if_neg c39]; exact congrArg _ hw
    have f10 : at_ s i = 10 → Ev (fun k => scan_literal.l0 k s (q.toNat : Int) (i : Int)) 0 := by
      intro e
      refine Ev.done1 fun k => ?_
      rw [scan_literal.l0, if_pos (by omega), if_pos (by omega), btA, if_neg (fun h => hq (((hqe _).1 h).symm.trans e)), if_pos ((u8_eq _ 10 10 rfl (by omega)).2 e)]
    by_cases h2 : i + 1 < s.size
    · have hD : (L s).drop i = at_ s i :: at_ s (i + 1) :: (L s).drop (i + 1 + 1) := by rw [drop_at s i hi, drop_at s (i + 1) h2]
      rw [hD, litT]
      by_cases c1 : at_ s i = q
      · rw [if_pos c1]; exact fq c1
      rw [if_neg c1]
      by_cases c2 : at_ s i = 10
      · rw [if_pos c2]; exact f10 c2
      rw [if_neg c2]
      by_cases c3 : at_ s i = 92
      · rw [if_pos c3]
        by_cases c4 : at_ s (i + 1) = 10
        · rw [if_pos c4]
          refine Ev.done1 fun k => ?_
          rw [scan_literal.l0, if_pos (by omega), if_pos (by omega), btA, if_neg (fun h => c1 ((hqe _).1 h)), if_neg (fun e => c2 ((u8_eq _ 10 10 rfl (by omega)).1 e)), if_pos ((u8_eq _ 92 92 rfl (by omega)).2 c3), show wrap64 ((i : Int) + 1) = ((i + 1 : Nat) : Int) from hw, if_pos (by omega), if_pos (by omega), btA, if_pos ((u8_eq _ 10 10 rfl (by omega)).2 c4)]; rfl
        · rw [if_neg c4, litR_map]
          refine Ev.steps1 (fun k => ?_) (ih (s.size - (i + 2)) (by omega) (i + 2) (Nat.le_refl _) (by omega) (by omega) (fun _ h => by omega))
          rw [scan_literal.l0, if_pos (by omega), if_pos (by omega), btA, if_neg (fun h => c1 ((hqe _).1 h)), if_neg (fun e => c2 ((u8_eq _ 10 10 rfl (by omega)).1 e)), if_pos ((u8_eq _ 92 92 rfl (by omega)).2 c3), hw2, show wrap64 ((i : Int) + 1) = ((i + 1 : Nat) : Int) from hw, if_pos (by omega), if_pos (by omega), btA, if_neg (fun e => c4 ((u8_eq _ 10 10 rfl (by omega)).1 e))]
      · rw [if_neg c3, litR_map, ← drop_at s (i + 1) h2]
        refine Ev.steps1 (fun k => ?_) (ih (s.size - (i + 1)) (by omega) (i + 1) (Nat.le_refl _) (by omega) (by omega) (fun _ h => by omega))
        rw [scan_literal.l0, if_pos (by omega), if_pos (by omega), btA, if_neg (fun h => c1 ((hqe _).1 h)), if_neg (fun e => c2 ((u8_eq _ 10 10 rfl (by omega)).1 e)), if_neg (fun e => c3 ((u8_eq _ 92 92 rfl (by omega)).1 e))]; exact congrArg _ hw
    · rw [drop_at s i hi, nil_drop s (i + 1) h2, litT]
      by_cases c1 : at_ s i = q
      · rw [if_pos c1]; exact fq c1
      rw [if_neg c1]
      by_cases c2 : at_ s i = 10
      · exact f10 c2
      refine Ev.two (r := 0) (f := fun _ => some 0) (fun k => ?_) (Ev.now 0)
      rw [scan_literal.l0, if_pos (by omega), if_pos (by omega), btA, if_neg (fun h => c1 ((hqe _).1 h)), if_neg (fun e => c2 ((u8_eq _ 10 10 rfl (by omega)).1 e))]
      by_cases c3 : at_ s i = 92
      · rw [if_pos ((u8_eq _ 92 92 rfl (by omega)).2 c3), hw2, show wrap64 ((i : Int) + 1) = ((i + 1 : Nat) : Int) from hw, if_neg (by omega), scan_literal.l0, if_neg (by omega)]
      · rw [if_neg (fun e => c3 ((u8_eq _ 92 92 rfl (by omega)).1 e)), show wrap64 ((i : Int) + 1) = ((i + 1 : Nat) : Int) from hw, scan_literal.l0, if_neg (by omega)]
  · refine Ev.done1 fun k => ?_
    rw [scan_literal.l0, if_neg (by omega), nil_drop s i hi]; rfl
theorem lit_f (s : ByteArray) (q : UInt8) (hs : s.size ≤ 140737488351232) (hq : q ≠ 10) : Ev (fun k => scan_literal.f k s (q.toNat : Int)) ((litF q (L s) : Nat) : Int) := by
  unfold scan_literal.f
  have hqe : ∀ c : UInt8, ((c.toNat : Int) = (q.toNat : Int)) ↔ c = q := fun c => ⟨fun e => UInt8.toNat_inj.1 (by omega), fun e => by rw [e]⟩
  by_cases hi : 0 < s.size
  · have hD := drop_at s 0 hi
    rw [List.drop_zero] at hD
    have hne : ¬ s.toList = ([] : List UInt8) := by rw [toList_L, hD]; simp
    refine Ev.congr (fun k => by rw [if_neg hne, if_pos (by omega), show bt s 0 = ((at_ s 0).toNat : Int) from btA s 0]) ?_
    rw [hD, litF]
    by_cases c : at_ s 0 = q
    · rw [if_pos c]
      refine Ev.steps1 (f := fun k => scan_literal.l0 k s (q.toNat : Int) ((1 : Nat) : Int)) (fun k => ?_) ?_
      · rw [scan_literal.j0, if_neg (by rw [c]; simp)]; rfl
      · rw [show (0 + 1) = 1 from rfl, head_drop]
        by_cases c2 : q = 39 ∧ (if 1 < s.size then some (at_ s 1) else none) = some 39
        · rw [if_pos c2]
          have h2 : 1 < s.size := by
            by_cases h : 1 < s.size
            · exact h
            · rw [if_neg h] at c2; exact absurd c2.2 (by simp)
          rw [if_pos h2] at c2
          refine Ev.done1 fun k => ?_
          rw [scan_literal.l0, if_pos (by omega), if_pos (by omega), btA, if_pos ((hqe _).2 ((Option.some.inj c2.2).trans c2.1.symm)), if_pos ((u8_eq q 39 39 rfl (by omega)).2 c2.1), if_pos (by omega)]; rfl
        · rw [if_neg c2]
          have h := lit_l s q hs hq _ 1 (Nat.le_refl _) (by omega) (Nat.le_refl _) (fun e _ h => c2 ⟨e, by
            by_cases h2 : 1 < s.size
            · rw [if_pos h2, h, e]
            · have : at_ s 1 = 0 := by unfold at_; rw [List.getD_eq_getElem?_getD, List.getElem?_eq_none (by rw [L_length]; omega)]; rfl
              rw [this] at h
              rw [← h] at e
              exact absurd e (by decide)⟩)
          cases hl : litT q ((L s).drop 1) with
          | none => rw [hl] at h; exact h
          | some n => rw [hl] at h; rw [show ((match some n with | some n => n + 1 | none => 0 : Nat)) = 1 + n from Nat.add_comm _ _]; exact h
    · rw [if_neg c]
      refine Ev.done1 fun k => ?_
      rw [scan_literal.j0, if_pos (by rw [bne_iff_ne]; exact fun e => c ((hqe _).1 e))]; rfl
  · have h0 : L s = [] := by have := nil_drop s 0 hi; rwa [List.drop_zero] at this
    rw [h0]
    refine Ev.done1 fun k => ?_
    rw [if_pos (by rw [toList_L, h0]), scan_literal.j0, if_pos rfl]; rfl

/-- Does a text begin with another? -/
def begU (p l : List UInt8) : Bool := decide (l.take p.length = p)
theorem prefix_f (s p : ByteArray) : strings_HasPrefix.f s p = some (begU (L p) (L s)) := by
  unfold strings_HasPrefix.f stringslite_HasPrefix.f begU
  by_cases h : p.size ≤ s.size
  · rw [if_pos (by omega), if_pos (by omega), if_pos (by omega), Option.bind_some, toList_L, toList_L, Int.toNat_natCast, L_extract, List.drop_zero, Nat.sub_zero, L_length]
    congr 1
    by_cases e : (L s).take p.size = L p
    · rw [decide_eq_true e, e, beq_self_eq_true]
    · rw [decide_eq_false e]; exact beq_eq_false_iff_ne.2 e
  · rw [if_neg (by omega), Option.bind_some, decide_eq_false]
    intro e
    have := congrArg List.length e
    rw [List.length_take, L_length, L_length] at this
    omega
/-- Where a header's name ends: behind its last byte. -/
def upT (e : UInt8) : List UInt8 → Option Nat
  | [] => none
  | c :: r => if c = 10 then none else if c = e then some 1 else (upT e r).map (· + 1)
def hdrF (l : List UInt8) : Nat :=
  match l with
  | [] => 0
  | c :: r => if c = 60 then (match upT 62 r with | some n => n + 1 | none => 0) else if c = 34 then (match upT 34 r with | some n => n + 1 | none => 0) else 0
theorem hdr_l (s : ByteArray) (e : UInt8) (hs : s.size ≤ 140737488351232) : ∀ (d i : Nat), s.size - i ≤ d → i ≤ s.size →
    Ev (fun k => scan_header.l0 k s (e.toNat : Int) (i : Int)) (litR i (upT e ((L s).drop i))) := by
  intro d
  have fin : ∀ i, ¬ i < s.size → Ev (fun k => scan_header.l0 k s (e.toNat : Int) (i : Int)) (litR i (upT e ((L s).drop i))) := by
    intro i h
    refine Ev.two (f := fun _ => some 0) (fun k => ?_) (by rw [nil_drop s i h]; exact Ev.now 0)
    rw [scan_header.l0, if_neg (by omega), scan_header.j2, if_neg (by decide)]
  induction d with
  | zero => exact fun i h _ => fin i (by omega)
  | succ d ih =>
    intro i hd h1
    by_cases hi : i < s.size
    · have hw := w64_1 s hs i 1 (by omega) (by omega)
      rw [drop_at s i hi, upT]
      by_cases c1 : at_ s i = 10
      · rw [if_pos c1]
        refine Ev.two (f := fun _ => some 0) (fun k => ?_) (Ev.now 0)
        rw [scan_header.l0, if_pos (by omega), if_pos (by omega), btA, show ((at_ s i).toNat : Int) = 10 from (u8_eq _ 10 10 rfl (by omega)).2 c1, bne_self_eq_false, scan_header.j2, if_neg (by decide)]
      · have n10 : (((at_ s i).toNat : Int) != 10) = true := bne_iff_ne.2 (fun e => c1 ((u8_eq _ 10 10 rfl (by omega)).1 e))
        rw [if_neg c1]
        by_cases c2 : at_ s i = e
        · rw [if_pos c2]
          refine Ev.two (f := fun _ => some ((i + 1 : Nat) : Int)) (fun k => ?_) (Ev.now _)
          rw [scan_header.l0, if_pos (by omega), if_pos (by omega), btA, n10, scan_header.j2, if_pos rfl, if_pos (by omega), if_pos (by omega), btA, if_pos (by rw [c2])]; exact congrArg _ hw
        · rw [if_neg c2, litR_map]
          refine Ev.two (fun k => ?_) (ih (i + 1) (by omega) (by omega))
          rw [scan_header.l0, if_pos (by omega), if_pos (by omega), btA, n10, scan_header.j2, if_pos rfl, if_pos (by omega), if_pos (by omega), btA, if_neg (fun h => c2 (UInt8.toNat_inj.1 (by omega)))]; exact congrArg _ hw
    · exact fin i hi
theorem hdr_f (s : ByteArray) (hs : s.size ≤ 140737488351232) : Ev (fun k => scan_header.f k s) ((hdrF (L s) : Nat) : Int) := by
  unfold scan_header.f
  have h60 : begU (L (⟨#[60]⟩ : ByteArray)) (L s) = decide ((L s).head? = some 60) := by
    unfold begU; rw [show L (⟨#[60]⟩ : ByteArray) = [60] from rfl]; cases L s <;> simp
  have h34 : begU (L (⟨#[34]⟩ : ByteArray)) (L s) = decide ((L s).head? = some 34) := by
    unfold begU; rw [show L (⟨#[34]⟩ : ByteArray) = [34] from rfl]; cases L s <;> simp
  refine Ev.congr (fun k => by rw [prefix_f, Option.bind_some, prefix_f, Option.bind_some, h60, h34]) ?_
  by_cases hi : 0 < s.size
  · have hD := drop_at s 0 hi
    rw [List.drop_zero] at hD
    have hh : (L s).head? = some (at_ s 0) := by rw [hD]; rfl
    have go : ∀ e : UInt8, Ev (fun k => scan_header.j0 k s (e.toNat : Int)) (((match upT e ((L s).drop (0 + 1)) with | some n => n + 1 | none => 0 : Nat)) : Int) := by
      intro e
      refine Ev.steps1 (f := fun k => scan_header.l0 k s (e.toNat : Int) ((1 : Nat) : Int)) (fun k => by rw [scan_header.j0]; rfl) ?_
      have h := hdr_l s e hs _ 1 (Nat.le_refl _) (by omega)
      rw [show 0 + 1 = 1 from rfl]
      cases hl : upT e ((L s).drop 1) with
      | none => rw [hl] at h; exact h
      | some n => rw [hl] at h; rw [show ((match some n with | some n => n + 1 | none => 0 : Nat)) = 1 + n from Nat.add_comm _ _]; exact h
    rw [hh]
    conv => arg 2; rw [hD]
    rw [hdrF]
    by_cases c1 : at_ s 0 = 60
    · rw [if_pos c1]
      exact Ev.congr (fun k => by rw [if_pos (by rw [c1]; decide)]; rfl) (go 62)
    · rw [if_neg c1]
      by_cases c2 : at_ s 0 = 34
      · rw [if_pos c2]
        exact Ev.congr (fun k => by rw [if_neg (by rw [c2]; decide), if_pos (by rw [c2]; decide)]; rfl) (go 34)
      · rw [if_neg c2]
        exact Ev.congr (fun k => by rw [if_neg (by simpa using c1), if_neg (by simpa using c2)]) (Ev.now 0)
  · have h0 : L s = [] := by have := nil_drop s 0 hi; rwa [List.drop_zero] at this
    rw [h0]
    exact Ev.congr (fun k => by rw [if_neg (by simp), if_neg (by simp)]) (Ev.now 0)

/-- A literal with that prefix: its kind and size. -/
def quoP (p l : List UInt8) : Option (Nat × Nat) :=
  if begU p l then (if 0 < litF 34 (l.drop p.length) then some (4, p.length + litF 34 (l.drop p.length))
    else if 0 < litF 39 (l.drop p.length) ∧ p ≠ [117, 56] then some (3, p.length + litF 39 (l.drop p.length)) else none) else none
def quoF (l : List UInt8) : Nat × Nat :=
  (((((quoP [117, 56] l).or (quoP [117] l)).or (quoP [85] l)).or (quoP [76] l)).or (quoP [] l)).getD (0, 0)
def prI (p : Nat × Nat) : Int × Int := ((p.1 : Int), (p.2 : Int))
def quoY : List ByteArray := [(⟨#[117, 56]⟩ : ByteArray), (⟨#[117]⟩ : ByteArray), (⟨#[85]⟩ : ByteArray), (⟨#[76]⟩ : ByteArray), (⟨#[]⟩ : ByteArray)]
theorem litF_le (q : UInt8) (l : List UInt8) : litF q l ≤ l.length := by
  have key : ∀ (n : Nat) (l : List UInt8), l.length = n → ∀ m, litT q l = some m → m ≤ l.length := by
    intro n
    induction n using Nat.strongRecOn with
    | _ n ih =>
      intro l hl m h
      match l, hl, h with
      | [], _, h => simp [litT] at h
      | [c], _, h =>
        rw [litT] at h
        split at h
        · cases h; simp
        · simp at h
      | c :: d :: r, hl, h =>
        simp only [List.length_cons] at hl ⊢
        rw [litT] at h
        split at h
        · cases h; omega
        · split at h
          · simp at h
          · split at h
            · split at h
              · simp at h
              · rw [Option.map_eq_some_iff] at h
                obtain ⟨m', h1, rfl⟩ := h
                have := ih r.length (by omega) r rfl m' h1
                omega
            · rw [Option.map_eq_some_iff] at h
              obtain ⟨m', h1, rfl⟩ := h
              have := ih (d :: r).length (by simp; omega) (d :: r) rfl m' h1
              simp only [List.length_cons] at this
              omega
  unfold litF
  cases l with
  | nil => simp
  | cons c r =>
    simp only
    split
    · split
      · omega
      · cases h : litT q r with
        | none => simp
        | some n => have := key _ r rfl n h; simp only [List.length_cons]; omega
    · omega
theorem quo_step (s p : ByteArray) (hs : s.size ≤ 140737488351232) (i : Nat) (hi : i < 5) (hp : rdOf ByteArray.empty quoY (i : Int) = p) (hp2 : p.size ≤ 2) (R : Nat × Nat)
    (h : Ev (fun k => scan_quoted.l0 k s quoY 5 ((i + 1 : Nat) : Int)) (prI R)) :
    Ev (fun k => scan_quoted.l0 k s quoY 5 (i : Int)) (prI ((quoP (L p) (L s)).getD R)) := by
  have hw : wrap64 ((i : Int) + 1) = ((i + 1 : Nat) : Int) := by unfold wrap64; omega
  have hlen : ((quoY.length : Nat) : Int) = 5 := rfl
  unfold quoP
  by_cases hb : begU (L p) (L s) = true
  · have hsz : p.size ≤ s.size := by
      unfold begU at hb
      have := congrArg List.length (of_decide_eq_true hb)
      rw [List.length_take, L_length, L_length] at this; omega
    have hE : L (s.extract p.size s.size) = (L s).drop p.size := by
      rw [L_extract, List.take_of_length_le (by rw [List.length_drop, L_length]; omega)]
    have hes : (s.extract p.size s.size).size ≤ 140737488351232 := by rw [size_extract s _ hsz]; omega
    have h34 := lit_f (s.extract p.size s.size) 34 hes (by decide)
    have h39 := lit_f (s.extract p.size s.size) 39 hes (by decide)
    have l34 := litF_le 34 (L (s.extract p.size s.size))
    have l39 := litF_le 39 (L (s.extract p.size s.size))
    rw [L_length] at l34 l39
    rw [hE] at h34 h39 l34 l39
    rw [if_pos hb, L_length]
    generalize litF 34 ((L s).drop p.size) = a at *
    generalize litF 39 ((L s).drop p.size) = b at *
    refine Ev.steps1 (f := fun k => (scan_literal.f k (s.extract p.size s.size) 34).bind fun t333 => (if t333 > 0 then (some (4, wrap64 ((p.size : Int) + t333))) else ((scan_literal.f k (s.extract p.size s.size) 39).bind fun t334 => (if t334 > 0 then (if p.toList = ([117, 56] : List UInt8) then (scan_quoted.l0 k s quoY 5 ((i + 1 : Nat) : Int)) else (some (3, wrap64 ((p.size : Int) + t334)))) else (scan_quoted.l0 k s quoY 5 ((i + 1 : Nat) : Int)))))) (fun k => ?_) ?_
    · rw [scan_quoted.l0, if_pos (by omega), if_pos (by omega), hlen, if_pos (by omega), hp, prefix_f, Option.bind_some, if_pos hb, if_pos (by omega), if_pos (by omega), Int.toNat_natCast, hw]
    · refine Ev.bind h34 ?_
      by_cases ca : 0 < a
      · rw [if_pos ca]
        refine Ev.congr (fun k => by rw [if_pos (by omega)]) ?_
        rw [show wrap64 ((p.size : Int) + (a : Int)) = ((p.size + a : Nat) : Int) by unfold wrap64; omega]
        exact Ev.now _
      · rw [if_neg ca]
        have h39' : Ev (fun k => scan_literal.f k (s.extract p.size s.size) 39) (b : Int) := h39
        refine Ev.congr (fun k => by rw [if_neg (by omega)]) (Ev.bind h39' ?_)
        by_cases cb : 0 < b
        · refine Ev.congr (fun k => by rw [if_pos (by omega), toList_L]) ?_
          by_cases cp : L p = [117, 56]
          · rw [if_neg (fun h => h.2 cp)]
            exact Ev.congr (fun k => by rw [if_pos cp]) h
          · rw [if_pos ⟨cb, cp⟩]
            refine Ev.congr (fun k => by rw [if_neg cp]) ?_
            rw [show wrap64 ((p.size : Int) + (b : Int)) = ((p.size + b : Nat) : Int) by unfold wrap64; omega]
            exact Ev.now _
        · rw [if_neg (fun h => cb h.1)]
          exact Ev.congr (fun k => by rw [if_neg (by omega)]) h
  · rw [if_neg hb]
    refine Ev.steps1 (fun k => ?_) h
    rw [scan_quoted.l0, if_pos (by omega), if_pos (by omega), hlen, if_pos (by omega), hp, prefix_f, Option.bind_some, if_neg hb, hw]
theorem getD_or {α : Type} (a b : Option α) (d : α) : (a.or b).getD d = a.getD (b.getD d) := by cases a <;> rfl
theorem quo_f (s : ByteArray) (hs : s.size ≤ 140737488351232) : Ev (fun k => scan_quoted.f k s) (prI (quoF (L s))) := by
  unfold scan_quoted.f quoF
  rw [getD_or, getD_or, getD_or, getD_or]
  refine Ev.congr (f := fun k => scan_quoted.l0 k s quoY 5 ((0 : Nat) : Int)) (fun k => by rw [Option.bind_some]; rfl) ?_
  refine quo_step s (⟨#[117, 56]⟩ : ByteArray) hs 0 (by omega) rfl (by decide) _ ?_
  refine quo_step s (⟨#[117]⟩ : ByteArray) hs 1 (by omega) rfl (by decide) _ ?_
  refine quo_step s (⟨#[85]⟩ : ByteArray) hs 2 (by omega) rfl (by decide) _ ?_
  refine quo_step s (⟨#[76]⟩ : ByteArray) hs 3 (by omega) rfl (by decide) _ ?_
  refine quo_step s (⟨#[]⟩ : ByteArray) hs 4 (by omega) rfl (by decide) _ ?_
  refine Ev.done1 fun k => ?_
  rw [scan_quoted.l0, if_neg (by omega)]; rfl
end Go.Proofs.Ytonfmnohmigjpaa.P
