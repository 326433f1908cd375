-- Written by wip/pr.py (the kit's printer, driven for functions that are proved by hand beside it), and put together by wip/mg.py.
import Derived.Test.YtonfmnohmigjpaaGE
/- A text cut behind its first token has the same first token. -/
namespace Go.Proofs.Ytonfmnohmigjpaa.P
open Go.RowKit Go.Proofs.YtonfmnohmigjpaaW.PrintWords Go.Proofs.YtonfmnohmigjpaaW.PrintLast
/-! A text cut behind its first token. -/
theorem upT_ext (e : UInt8) : ∀ (l z : List UInt8) (n : Nat), upT e l = some n → upT e (l ++ z) = some n := by
  intro l
  induction l with
  | nil => intro z n h; simp [upT] at h
  | cons c r ih =>
    intro z n h
    rw [List.cons_append]
    unfold upT at h ⊢
    split
    · rename_i e1; rw [if_pos e1] at h; simp at h
    · rename_i e1
      rw [if_neg e1] at h
      split
      · rename_i e2; rw [if_pos e2] at h; exact h
      · rename_i e2
        rw [if_neg e2] at h
        rw [Option.map_eq_some_iff] at h ⊢
        obtain ⟨m, h1, h2⟩ := h
        exact ⟨m, ih z m h1, h2⟩
theorem upT_cut (e : UInt8) : ∀ (l : List UInt8) (n m : Nat), upT e l = some n → n ≤ m → upT e (l.take m) = some n := by
  intro l
  induction l with
  | nil => intro n m h; simp [upT] at h
  | cons c r ih =>
    intro n m h hm
    have := upT_le e _ _ h
    obtain ⟨m, rfl⟩ : ∃ k, m = k + 1 := ⟨m - 1, by omega⟩
    rw [List.take_succ_cons]
    unfold upT at h ⊢
    split
    · rename_i e1; rw [if_pos e1] at h; simp at h
    · rename_i e1
      rw [if_neg e1] at h
      split
      · rename_i e2; rw [if_pos e2] at h; exact h
      · rename_i e2
        rw [if_neg e2] at h
        rw [Option.map_eq_some_iff] at h ⊢
        obtain ⟨k, h1, rfl⟩ := h
        exact ⟨k, ih k m h1 (by omega), rfl⟩
theorem ext_none {α : Type} {f : List UInt8 → Option α} (hf : ∀ l z n, f l = some n → f (l ++ z) = some n) {l : List UInt8} (m : Nat) (h : f l = none) : f (l.take m) = none := by
  cases h1 : f (l.take m) with
  | none => rfl
  | some n =>
    have := hf _ (l.drop m) _ h1
    rw [List.take_append_drop, h] at this
    simp at this
theorem hdrF_cut (l : List UInt8) (m : Nat) (h : hdrF l ≤ m) : hdrF (l.take m) = hdrF l := by
  cases l with
  | nil => simp
  | cons c r =>
    cases m with
    | zero => rw [List.take_zero]; have : hdrF (c :: r) = 0 := by omega
              rw [this]; rfl
    | succ m =>
      rw [List.take_succ_cons]
      unfold hdrF at h ⊢
      simp only at h ⊢
      split
      · rename_i e1; rw [if_pos e1] at h
        cases h1 : upT 62 r with
        | none => rw [ext_none (upT_ext 62) m h1]
        | some n => rw [h1] at h; simp only at h; rw [upT_cut 62 r n m h1 (by omega)]
      · rename_i e1; rw [if_neg e1] at h
        split
        · rename_i e2; rw [if_pos e2] at h
          cases h1 : upT 34 r with
          | none => rw [ext_none (upT_ext 34) m h1]
          | some n => rw [h1] at h; simp only at h; rw [upT_cut 34 r n m h1 (by omega)]
        · rfl
theorem litT_ext (q : UInt8) : ∀ (k : Nat) (l z : List UInt8) (n : Nat), l.length = k → litT q l = some n → litT q (l ++ z) = some n := by
  intro k
  induction k using Nat.strongRecOn with
  | _ k ih =>
    intro l z n hl h
    match l, hl, h with
    | [], _, h => simp [litT] at h
    | [c], _, h =>
      simp only [litT] at h
      split at h
      · rename_i e
        cases z with
        | nil => simp [litT, e, h]
        | cons d z => simp [litT, e, h]
      · simp at h
    | c :: d :: r, hl, h =>
      simp only [List.length_cons] at hl
      simp only [List.cons_append, litT] at h ⊢
      split
      · rename_i e; rw [if_pos e] at h; exact h
      · rename_i e; rw [if_neg e] at h
        split
        · rename_i e1; rw [if_pos e1] at h; exact h
        · rename_i e1; rw [if_neg e1] at h
          split
          · rename_i e2; rw [if_pos e2] at h
            split
            · rename_i e3; rw [if_pos e3] at h; exact h
            · rename_i e3; rw [if_neg e3] at h
              rw [Option.map_eq_some_iff] at h ⊢
              obtain ⟨m, h1, h2⟩ := h
              exact ⟨m, ih r.length (by omega) r z m rfl h1, h2⟩
          · rename_i e2; rw [if_neg e2] at h
            rw [Option.map_eq_some_iff] at h ⊢
            obtain ⟨m, h1, h2⟩ := h
            exact ⟨m, ih (r.length + 1) (by omega) (d :: r) z m rfl h1, h2⟩
theorem litT_pos (q : UInt8) : ∀ (l : List UInt8) (n : Nat), litT q l = some n → 1 ≤ n := by
  intro l n h
  match l, h with
  | [], h => simp [litT] at h
  | [c], h =>
    simp only [litT] at h
    split at h
    · cases h; omega
    · simp at h
  | c :: d :: r, h =>
    simp only [litT] at h
    repeat' split at h
    all_goals first
      | (cases h; omega)
      | (simp at h; done)
      | (rw [Option.map_eq_some_iff] at h; obtain ⟨m, h1, h2⟩ := h; omega)
theorem litT_cut (q : UInt8) : ∀ (k : Nat) (l : List UInt8) (n m : Nat), l.length = k → litT q l = some n → n ≤ m → litT q (l.take m) = some n := by
  intro k
  induction k using Nat.strongRecOn with
  | _ k ih =>
    intro l n m hl h hm
    have h0 := litT_pos q l n h
    obtain ⟨m, rfl⟩ : ∃ k, m = k + 1 := ⟨m - 1, by omega⟩
    match l, hl, h with
    | [], _, h => simp [litT] at h
    | [c], _, h => simpa using h
    | c :: d :: r, hl, h =>
      simp only [List.length_cons] at hl
      cases m with
      | zero =>
        obtain rfl : n = 1 := by omega
        simp only [litT, List.take_succ_cons, List.take_zero] at h ⊢
        split
        · rfl
        · rename_i e; rw [if_neg e] at h
          exfalso
          repeat' split at h
          all_goals first
            | (simp at h; done)
            | (rw [Option.map_eq_some_iff] at h; obtain ⟨m, h1, h2⟩ := h; have := litT_pos q _ _ h1; omega)
      | succ m =>
        simp only [List.take_succ_cons, litT] at h ⊢
        split
        · rename_i e; rw [if_pos e] at h; exact h
        · rename_i e; rw [if_neg e] at h
          split
          · rename_i e1; rw [if_pos e1] at h; exact h
          · rename_i e1; rw [if_neg e1] at h
            split
            · rename_i e2; rw [if_pos e2] at h
              split
              · rename_i e3; rw [if_pos e3] at h; exact h
              · rename_i e3; rw [if_neg e3] at h
                rw [Option.map_eq_some_iff] at h ⊢
                obtain ⟨j, h1, h2⟩ := h
                exact ⟨j, ih r.length (by omega) r j m rfl h1 (by omega), h2⟩
            · rename_i e2; rw [if_neg e2] at h
              rw [Option.map_eq_some_iff] at h ⊢
              obtain ⟨j, h1, h2⟩ := h
              have := ih (r.length + 1) (by omega) (d :: r) j (m + 1) rfl h1 (by omega)
              rw [List.take_succ_cons] at this
              exact ⟨j, this, h2⟩
theorem litF_cut (q : UInt8) (l : List UInt8) (m : Nat) (h : litF q l ≤ m) : litF q (l.take m) = litF q l := by
  cases l with
  | nil => simp
  | cons c r =>
    cases m with
    | zero => rw [List.take_zero]; have : litF q (c :: r) = 0 := by omega
              rw [this]; rfl
    | succ m =>
      rw [List.take_succ_cons]
      unfold litF at h ⊢
      simp only at h ⊢
      split
      · rename_i e1; rw [if_pos e1] at h
        by_cases e2 : q = 39 ∧ r.head? = some 39
        · rw [if_pos e2]
          cases m with
          | zero => rw [List.take_zero]; simp [litT]
          | succ m =>
            rw [if_pos ⟨e2.1, by rw [← e2.2]; cases r <;> simp⟩]
        · rw [if_neg e2] at h ⊢
          have e3 : ¬ (q = 39 ∧ (r.take m).head? = some 39) := by
            intro hh; exact e2 ⟨hh.1, by cases r <;> cases m <;> simp_all⟩
          rw [if_neg e3]
          cases h1 : litT q r with
          | none => rw [ext_none (fun l z n => litT_ext q _ l z n rfl) m h1]
          | some n => rw [h1] at h; simp only at h; rw [litT_cut q _ r n m rfl h1 (by omega)]
      · rfl
theorem begU_cut (p l : List UInt8) (m : Nat) (h : p.length ≤ m) : begU p (l.take m) = begU p l := by
  unfold begU
  rw [List.take_take, Nat.min_eq_left h]
theorem begU_ext {p l z : List UInt8} (h : begU p l = true) : begU p (l ++ z) = true := by
  unfold begU at h ⊢
  have h := of_decide_eq_true h
  refine decide_eq_true ?_
  have := congrArg List.length h
  rw [List.length_take] at this
  rw [List.take_append_of_le_length (by omega)]
  exact h
theorem begU_short {p l : List UInt8} (m : Nat) (h : begU p l = false) : begU p (l.take m) = false := by
  cases h1 : begU p (l.take m) with
  | false => rfl
  | true =>
    have := begU_ext (z := l.drop m) h1
    rw [List.take_append_drop, h] at this
    exact this.symm
theorem quoP_cut (p l : List UInt8) (m : Nat) (r : Nat × Nat) (h : quoP p l = some r) (hm : r.2 ≤ m) : quoP p (l.take m) = some r := by
  unfold quoP at h ⊢
  split at h
  · rename_i h0
    have e : (l.take m).drop p.length = (l.drop p.length).take (m - p.length) := by rw [List.drop_take]
    split at h
    · rename_i h1
      obtain rfl := Option.some.inj h
      dsimp only at hm
      rw [begU_cut p l m (by omega), if_pos h0, e, litF_cut 34 _ _ (by omega), if_pos h1]
    · rename_i h1
      split at h
      · rename_i h2
        obtain rfl := Option.some.inj h
        dsimp only at hm
        rw [begU_cut p l m (by omega), if_pos h0, e, litF_cut 34 _ _ (by omega), if_neg h1, litF_cut 39 _ _ (by omega), if_pos h2]
      · simp at h
  · simp at h
theorem quoP_none (p l : List UInt8) (m : Nat) (h : quoP p l = none) : quoP p (l.take m) = none := by
  unfold quoP at h ⊢
  cases h0 : begU p l with
  | false => rw [begU_short m h0]; rfl
  | true =>
    rw [h0, if_pos rfl] at h
    have e : (l.take m).drop p.length = (l.drop p.length).take (m - p.length) := by rw [List.drop_take]
    split at h
    · simp at h
    · rename_i h1
      split at h
      · simp at h
      · rename_i h2
        split
        · rw [e, litF_cut 34 _ _ (by omega), if_neg h1]
          by_cases h3 : p = [117, 56]
          · rw [if_neg (fun hh => hh.2 h3)]
          · have h4 : litF 39 (l.drop p.length) = 0 := by
              rcases Nat.eq_zero_or_pos (litF 39 (l.drop p.length)) with h5 | h5
              · exact h5
              · exact absurd ⟨h5, h3⟩ h2
            rw [litF_cut 39 _ _ (by omega), if_neg h2]
        · rfl
theorem quoF_cut (l : List UInt8) (m : Nat) (h : (quoF l).2 ≤ m) : quoF (l.take m) = quoF l := by
  have st : ∀ p (o o' : Option (Nat × Nat)), (o.or ((quoP p l))).getD (0, 0) = quoF l → True := fun _ _ _ _ => trivial
  unfold quoF at *
  cases h1 : quoP [117, 56] l with
  | some r => rw [h1] at h; rw [quoP_cut _ l m r h1 (by simpa using h)]; simp
  | none =>
  rw [h1] at h
  rw [quoP_none _ l m h1]
  cases h2 : quoP [117] l with
  | some r => rw [h2] at h; rw [quoP_cut _ l m r h2 (by simpa using h)]; simp
  | none =>
  rw [h2] at h
  rw [quoP_none _ l m h2]
  cases h3 : quoP [85] l with
  | some r => rw [h3] at h; rw [quoP_cut _ l m r h3 (by simpa using h)]; simp
  | none =>
  rw [h3] at h
  rw [quoP_none _ l m h3]
  cases h4 : quoP [76] l with
  | some r => rw [h4] at h; rw [quoP_cut _ l m r h4 (by simpa using h)]; simp
  | none =>
  rw [h4] at h
  rw [quoP_none _ l m h4]
  cases h5 : quoP [] l with
  | some r => rw [h5] at h; rw [quoP_cut _ l m r h5 (by simpa using h)]
  | none => rw [quoP_none _ l m h5]
theorem wordT_cut : ∀ (l : List UInt8) (m : Nat), wordT (l.take m) = min m (wordT l) := by
  intro l
  induction l with
  | nil => intro m; simp [wordT]
  | cons c r ih =>
    intro m
    cases m with
    | zero => simp [wordT]
    | succ m =>
      rw [List.take_succ_cons]
      unfold wordT
      split
      · rw [ih]; omega
      · omega
theorem wordF_cut (l : List UInt8) (m : Nat) (h : wordF l ≤ m) : wordF (l.take m) = wordF l := by
  cases l with
  | nil => simp
  | cons c r =>
    cases m with
    | zero => rw [List.take_zero]; have : wordF (c :: r) = 0 := by omega
              rw [this]; rfl
    | succ m =>
      rw [List.take_succ_cons, wordF, wordF]
      rw [wordF] at h
      split
      · rename_i e; rw [if_pos e] at h; rw [wordT_cut]; omega
      · rfl
theorem numT_cut : ∀ (k : Nat) (l : List UInt8) (m : Nat), l.length = k → numT l ≤ m → numT (l.take m) = numT l := by
  intro k
  induction k using Nat.strongRecOn with
  | _ k ih =>
    intro l m hl h
    match l, hl, h with
    | [], _, h => simp
    | [c], _, h =>
      cases m with
      | zero => simp only [List.take_zero]; have : numT [c] = 0 := by omega
                rw [this]; rfl
      | succ m => simp
    | c :: d :: r, hl, h =>
      simp only [List.length_cons] at hl
      match m, h with
      | 0, h => simp only [List.take_zero]; have : numT (c :: d :: r) = 0 := by omega
                rw [this]; rfl
      | 1, h =>
        simp only [List.take_succ_cons, List.take_zero]
        rw [numT] at h
        simp only [numT]
        repeat' split at h
        · omega
        · rename_i e1 e2
          have : numT (d :: r) = 0 := by omega
          rw [if_neg e1, if_pos e2, if_pos e2, this]
        · rename_i e1 e2
          rw [if_neg e1, if_neg e2, if_neg e2]
      | m + 2, h =>
        rw [List.take_succ_cons, List.take_succ_cons, numT, numT]
        rw [numT] at h
        split
        · rename_i e; rw [if_pos e] at h
          rw [ih r.length (by omega) r m rfl (by omega)]
        · rename_i e; rw [if_neg e] at h
          split
          · rename_i e1; rw [if_pos e1] at h
            have := ih (r.length + 1) (by omega) (d :: r) (m + 1) rfl (by omega)
            rw [List.take_succ_cons] at this
            rw [this]
          · rfl
theorem numF_cut (l : List UInt8) (m : Nat) (h : numF l ≤ m) : numF (l.take m) = numF l := by
  match l, m, h with
  | [], m, h => simp
  | [c], 0, h => simp only [List.take_zero]; have : numF [c] = 0 := by omega
                 rw [this]; rfl
  | [c], m + 1, h => simp
  | c :: d :: r, 0, h => simp only [List.take_zero]; have : numF (c :: d :: r) = 0 := by omega
                         rw [this]; rfl
  | c :: d :: r, 1, h =>
    simp only [List.take_succ_cons, List.take_zero]
    rw [numF] at h
    simp only [numF]
    repeat' split at h
    · rename_i e1
      have : numT (d :: r) = 0 := by omega
      rw [if_pos e1, if_pos e1, this]
    · omega
    · rename_i e1 e2
      rw [if_neg e1, if_neg e2, if_neg e1]
  | c :: d :: r, m + 2, h =>
    rw [List.take_succ_cons, List.take_succ_cons, numF, numF]
    rw [numF] at h
    split
    · rename_i e; rw [if_pos e] at h
      have := numT_cut _ (d :: r) (m + 1) rfl (by omega)
      rw [List.take_succ_cons] at this
      rw [this]
    · rename_i e; rw [if_neg e] at h
      split
      · rename_i e1; rw [if_pos e1] at h
        rw [numT_cut _ r m rfl (by omega)]
      · rfl
theorem pctN_cut (l : List UInt8) (m j : Nat) (hj : j ≤ m) : pctN (l.take m) j = pctN l j := by
  unfold pctN
  rw [List.take_take, Nat.min_eq_left hj, List.length_take]
  congr 1
  by_cases h : j ≤ l.length
  · rw [decide_eq_true h, decide_eq_true (by omega)]
  · rw [decide_eq_false h, decide_eq_false (by omega)]
theorem pctN_big (l : List UInt8) (m j : Nat) (hj : m < j) : pctN (l.take m) j = false := by
  unfold pctN
  rw [List.length_take, decide_eq_false (by omega), Bool.false_and]
theorem punctF_cut (l : List UInt8) (m : Nat) (h : punctF l ≤ m) : punctF (l.take m) = punctF l := by
  have key : ∀ j, pctN (l.take m) j = (pctN l j && decide (j ≤ m)) := by
    intro j
    by_cases hj : j ≤ m
    · rw [pctN_cut l m j hj, decide_eq_true hj, Bool.and_true]
    · rw [pctN_big l m j (by omega), decide_eq_false hj, Bool.and_false]
  unfold punctF at h ⊢
  simp only [key]
  cases h4 : pctN l 4 <;> cases h3 : pctN l 3 <;> cases h2 : pctN l 2 <;> cases h1 : pctN l 1 <;> simp [h4, h3, h2, h1] at h ⊢ <;> omega
theorem lineE_cut : ∀ (l : List UInt8) (m : Nat), lineE (l.take m) = min m (lineE l) := by
  intro l
  induction l with
  | nil => intro m; simp [lineE]
  | cons c r ih =>
    intro m
    cases m with
    | zero => simp [lineE]
    | succ m =>
      rw [List.take_succ_cons]
      unfold lineE
      split
      · omega
      · rw [ih]; omega
theorem closeC_ext : ∀ (l z : List UInt8) (n : Nat), closeC l = some n → closeC (l ++ z) = some n := by
  intro l
  induction l with
  | nil => intro z n h; simp [closeC] at h
  | cons a r ih =>
    intro z n h
    cases r with
    | nil => simp [closeC] at h
    | cons b r =>
      simp only [List.cons_append, closeC] at h ⊢
      split
      · rename_i e; rw [if_pos e] at h; exact h
      · rename_i e; rw [if_neg e] at h
        rw [Option.map_eq_some_iff] at h ⊢
        obtain ⟨m, h1, h2⟩ := h
        exact ⟨m, ih z m h1, h2⟩
theorem closeC_cut : ∀ (l : List UInt8) (n m : Nat), closeC l = some n → n ≤ m → closeC (l.take m) = some n := by
  intro l
  induction l with
  | nil => intro n m h; simp [closeC] at h
  | cons a r ih =>
    intro n m h hm
    cases r with
    | nil => simp [closeC] at h
    | cons b r =>
      have := closeC_le _ _ h
      obtain ⟨m, rfl⟩ : ∃ k, m = k + 2 := ⟨m - 2, by omega⟩
      simp only [List.take_succ_cons, closeC] at h ⊢
      split
      · rename_i e; rw [if_pos e] at h; exact h
      · rename_i e; rw [if_neg e] at h
        rw [Option.map_eq_some_iff] at h ⊢
        obtain ⟨k, h1, h2⟩ := h
        have := ih k (m + 1) h1 (by omega)
        rw [List.take_succ_cons] at this
        exact ⟨k, this, h2⟩
theorem comF_cut (l : List UInt8) (m n : Nat) (h : comF l = some n) (hm : n ≤ m) : comF (l.take m) = some n := by
  unfold comF at h ⊢
  cases h1 : begU [47, 47] l with
  | true =>
    rw [h1, if_pos rfl] at h
    obtain rfl := Option.some.inj h
    have h2 : 2 ≤ lineE l := by
      match l, h1 with
      | [], h1 => exact absurd h1 (by decide)
      | [a], h1 => simp [begU] at h1
      | a :: b :: r, h1 =>
        simp [begU] at h1
        obtain ⟨rfl, rfl⟩ := h1
        simp [lineE]
    rw [begU_cut _ _ _ (by simpa using Nat.le_trans h2 hm), h1, if_pos rfl, lineE_cut, Nat.min_eq_right hm]
  | false =>
    rw [h1, if_neg (by decide)] at h
    rw [begU_short m h1, if_neg (by decide)]
    cases h2 : begU [47, 42] l with
    | true =>
      rw [h2, if_pos rfl] at h
      rw [Option.map_eq_some_iff] at h
      obtain ⟨k, h3, rfl⟩ := h
      have h4 := closeC_le _ _ h3
      rw [begU_cut _ _ _ (by simp; omega), h2, if_pos rfl, List.drop_take, closeC_cut _ _ _ h3 (by omega)]
      rfl
    | false =>
      rw [h2, if_neg (by decide)] at h
      rw [begU_short m h2, if_neg (by decide)]
      exact h
theorem comF_zero {l : List UInt8} (m : Nat) (h : comF l = some 0) : comF (l.take m) = some 0 := comF_cut l m 0 h (Nat.zero_le _)
/-- The first token of a text that is cut behind it. -/
theorem first_cut (l : List UInt8) (b b' : Bool) (k : Int) (n m : Nat) (hl : l ≠ []) (h : firstI l b = (k, (n : Int), 0)) (hn : 0 < n) (hm : n ≤ m) (hb : b' = b ∨ (k ≠ 7 ∧ b' = false)) : firstI (l.take m) b' = (k, (n : Int), 0) := by
  cases l with
  | nil => exact absurd rfl hl
  | cons c r =>
  have hh : ((c :: r).take m).headD 0 = c := by
    obtain ⟨j, rfl⟩ : ∃ j, m = j + 1 := ⟨m - 1, by omega⟩
    rfl
  have hx : (c :: r).headD 0 = c := rfl
  unfold firstI at h ⊢
  rw [hh]
  rw [hx] at h
  unfold firstG at h ⊢
  split at h
  · rename_i h1
    obtain ⟨rfl, h2⟩ := Prod.mk.inj h
    have h2 := (Prod.mk.inj h2).1
    have hbt : b' = true := by
      rcases hb with rfl | hb
      · exact h1.1
      · exact absurd rfl hb.1
    rw [hdrF_cut _ _ (by omega), if_pos ⟨hbt, h1.2⟩]
    rw [h2]
  · rename_i h1
    have hb1 : ¬ (b' = true ∧ (0 : Int) < ((hdrF ((c :: r).take m) : Nat) : Int)) := by
      rintro ⟨g1, g2⟩
      rcases hb with rfl | hb
      · have : hdrF (c :: r) = 0 := by
          rcases Nat.eq_zero_or_pos (hdrF (c :: r)) with g3 | g3
          · exact g3
          · exact absurd ⟨g1, by omega⟩ h1
        rw [hdrF_cut _ _ (by omega), this] at g2
        simp at g2
      · rw [hb.2] at g1; simp at g1
    rw [if_neg hb1]
    by_cases h2 : comI (comF (c :: r)) < 0
    · rw [if_pos h2] at h
      simp at h
    · rw [if_neg h2] at h
      obtain ⟨cm, hc⟩ : ∃ cm, comF (c :: r) = some cm := by
        cases hc : comF (c :: r) with
        | none => rw [hc] at h2; simp [comI] at h2
        | some cm => exact ⟨cm, rfl⟩
      have hcI : comI (comF (c :: r)) = (cm : Int) := by rw [hc]; rfl
      rw [hcI] at h
      by_cases h3 : (0 : Int) < (cm : Int)
      · rw [if_pos h3] at h
        obtain ⟨rfl, h4⟩ := Prod.mk.inj h
        have h4 := (Prod.mk.inj h4).1
        have hcJ : comI (comF ((c :: r).take m)) = (cm : Int) := by rw [comF_cut _ m cm hc (by omega)]; rfl
        rw [hcJ, if_neg (by omega), if_pos h3, h4]
      · rw [if_neg h3] at h
        obtain rfl : cm = 0 := by omega
        have hcJ : comI (comF ((c :: r).take m)) = 0 := by rw [comF_zero m hc]; rfl
        rw [hcJ, if_neg (by decide), if_neg (by decide)]
        by_cases h4 : (c.toNat : Int) = 10
        · rw [if_pos h4] at h ⊢; exact h
        · rw [if_neg h4] at h ⊢
          by_cases h5 : (0 : Int) < ((quoF (c :: r)).2 : Int)
          · rw [if_pos h5] at h
            obtain ⟨h6, h7⟩ := Prod.mk.inj h
            have h7 := (Prod.mk.inj h7).1
            rw [quoF_cut _ m (by omega), if_pos h5, h6, h7]
          · rw [if_neg h5] at h
            rw [quoF_cut _ m (by omega), if_neg h5]
            by_cases h6 : (0 : Int) < (wordF (c :: r) : Int)
            · rw [if_pos h6] at h
              obtain ⟨h7, h8⟩ := Prod.mk.inj h
              have h8 := (Prod.mk.inj h8).1
              rw [wordF_cut _ m (by omega), if_pos h6, h7, h8]
            · rw [if_neg h6] at h
              rw [wordF_cut _ m (by omega), if_neg h6]
              by_cases h7 : (0 : Int) < (numF (c :: r) : Int)
              · rw [if_pos h7] at h
                obtain ⟨h9, h8⟩ := Prod.mk.inj h
                have h8 := (Prod.mk.inj h8).1
                rw [numF_cut _ m (by omega), if_pos h7, h9, h8]
              · rw [if_neg h7] at h
                rw [numF_cut _ m (by omega), if_neg h7]
                by_cases h8 : (0 : Int) < (punctF (c :: r) : Int)
                · rw [if_pos h8] at h
                  obtain ⟨h9, h10⟩ := Prod.mk.inj h
                  have h10 := (Prod.mk.inj h10).1
                  rw [punctF_cut _ m (by omega), if_pos h8, h9, h10]
                · rw [if_neg h8] at h
                  rw [punctF_cut _ m (by omega), if_neg h8]
                  exact h
end Go.Proofs.Ytonfmnohmigjpaa.P
/- One token, two tokens: what One and Fuses answer. -/
namespace Go.Proofs.Ytonfmnohmigjpaa.P
open Go.RowKit Go.Proofs.YtonfmnohmigjpaaW.PrintWords Go.Proofs.YtonfmnohmigjpaaW.PrintLast
/-- The kind of a text that is one token. -/
def oneT (t : ByteArray) : Int × Bool :=
  match toksF 0 false [] (L t) with
  | [] => (0, false)
  | p :: _ => if p.2 = 0 ∧ p.1.f1.toList = t.toList then (p.1.f0, true) else (0, false)
/-- Are the tokens not those that are wanted? (n: how many there were till now) -/
def fuseG (want : List ByteArray) : Nat → List (S26 × Int) → Bool
  | n, [] => decide (n ≠ 2)
  | n, p :: r => if p.2 = 0 ∧ n ≠ 2 ∧ p.1.f1.toList = (want.getD n ByteArray.empty).toList then fuseG want (n + 1) r else true
def fuseT (a b : ByteArray) : Bool × Int :=
  if (oneT a).2 = false then (false, 2) else if (oneT b).2 = false then (false, 2) else (fuseG [a, b] 0 (toksF 0 false [] (L (a ++ b))), 0)
theorem textOf_L (l : List UInt8) (n : Int) : L (textOf l n) = l.take n.toNat := by unfold textOf; exact L_mk _
end Go.Proofs.Ytonfmnohmigjpaa.P
/- Two tokens that stand side by side do not fuse. -/
namespace Go.Proofs.Ytonfmnohmigjpaa.P
open Go.RowKit Go.Proofs.YtonfmnohmigjpaaW.PrintWords Go.Proofs.YtonfmnohmigjpaaW.PrintLast
theorem names_nil : namesU [] = false := rfl
theorem names_one (t : ByteArray) (k : Int) : namesU (lineN [] k t) = false := by
  unfold lineN
  split
  · rfl
  · split <;> rfl
/-- Two tokens that stand side by side at the beginning. -/
structure Side (l : List UInt8) (k k' : Int) (n m : Nat) : Prop where
  ne : l.drop n ≠ []
  h1 : firstI l false = (k, (n : Int), 0)
  h2 : firstI (l.drop n) false = (k', (m : Int), 0)
  n0 : 0 < n
  m0 : 0 < m
  le : n + m ≤ l.length
  w1 : whtU (l.headD 0) = false
  w2 : whtU ((l.drop n).headD 0) = false
theorem toks_one (l : List UInt8) (hw : whtU (l.headD 0) = false) (hl : l ≠ []) (k : Int) (n : Nat) (i : Nat) (sp : Bool) (line : List ByteArray) (h : firstI l (namesU line) = (k, (n : Int), 0)) :
    toksF i sp line l = tokOf i sp l (k, (n : Int), 0) :: toksF (i + n) false (lineN line k (textOf l n)) (l.drop n) := by
  cases l with
  | nil => exact absurd rfl hl
  | cons a r =>
    have := toksF_tok i sp line a r hw k n h
    rwa [Int.toNat_natCast] at this
theorem oneT_of (l : List UInt8) (hw : whtU (l.headD 0) = false) (hl : l ≠ []) (k : Int) (n : Nat) (hn : 0 < n) (h : firstI l false = (k, (n : Int), 0)) : oneT (textOf l n) = (k, true) := by
  have hc := first_cut l false false k n n hl h hn (Nat.le_refl _) (.inl rfl)
  have hd : (l.take n).headD 0 = l.headD 0 := by
    obtain ⟨j, rfl⟩ : ∃ j, n = j + 1 := ⟨n - 1, by omega⟩
    cases l <;> rfl
  have hne : l.take n ≠ [] := by
    obtain ⟨j, rfl⟩ : ∃ j, n = j + 1 := ⟨n - 1, by omega⟩
    cases l with
    | nil => exact absurd rfl hl
    | cons a r => simp
  unfold oneT
  rw [textOf_L, Int.toNat_natCast, toks_one (l.take n) (by rw [hd]; exact hw) hne k n 0 false [] hc]
  dsimp only
  rw [if_pos]
  · rfl
  · refine ⟨rfl, ?_⟩
    unfold tokOf
    dsimp only
    rw [toList_L, toList_L, textOf_L, textOf_L, Int.toNat_natCast, List.take_take, Nat.min_self]
theorem side_fuse (l : List UInt8) (k k' : Int) (n m : Nat) (S : Side l k k' n m) : fuseT (textOf l n) (textOf (l.drop n) m) = (false, 0) := by
  have hl : l ≠ [] := by intro e; have := S.ne; rw [e] at this; simp at this
  unfold fuseT
  rw [oneT_of l S.w1 hl k n S.n0 S.h1, oneT_of (l.drop n) S.w2 S.ne k' m S.m0 S.h2]
  simp only [Bool.true_eq_false, if_false]
  congr 1
  have hd : ∀ (l : List UInt8) n, 0 < n → (l.take n).headD 0 = l.headD 0 := by
    intro l n hn
    obtain ⟨j, rfl⟩ : ∃ j, n = j + 1 := ⟨n - 1, by omega⟩
    cases l <;> rfl
  have hne : ∀ (l : List UInt8) n, 0 < n → l ≠ [] → l.take n ≠ [] := by
    intro l n hn hl
    obtain ⟨j, rfl⟩ : ∃ j, n = j + 1 := ⟨n - 1, by omega⟩
    cases l with
    | nil => exact absurd rfl hl
    | cons a r => simp
  have e0 : L (textOf l n ++ textOf (l.drop n) m) = l.take (n + m) := by
    rw [L_app, textOf_L, textOf_L, Int.toNat_natCast, Int.toNat_natCast, List.take_add]
  rw [e0]
  have c1 := first_cut l false false k n (n + m) hl S.h1 S.n0 (by omega) (.inl rfl)
  rw [toks_one (l.take (n + m)) (by rw [hd l _ (by have := S.n0; omega)]; exact S.w1) (hne _ _ (by have := S.n0; omega) hl) k n 0 false [] c1]
  have e1 : (l.take (n + m)).drop n = (l.drop n).take m := by rw [List.drop_take, Nat.add_sub_cancel_left]
  have c2 := first_cut (l.drop n) false false k' m m S.ne S.h2 S.m0 (Nat.le_refl _) (.inl rfl)
  rw [e1, toks_one ((l.drop n).take m) (by rw [hd _ _ S.m0]; exact S.w2) (hne _ _ S.m0 S.ne) k' m _ false _ (by rw [names_one]; exact c2)]
  have e2 : ((l.drop n).take m).drop m = [] := by rw [List.drop_take, Nat.sub_self, List.take_zero]
  rw [e2, toksF_nil]
  unfold fuseG
  rw [if_pos]
  · unfold fuseG
    rw [if_pos]
    · rfl
    · refine ⟨rfl, by decide, ?_⟩
      show (textOf ((l.drop n).take m) m).toList = (textOf (l.drop n) m).toList
      rw [toList_L, toList_L, textOf_L, textOf_L, Int.toNat_natCast, List.take_take, Nat.min_self]
  · refine ⟨rfl, by decide, ?_⟩
    show (textOf (l.take (n + m)) n).toList = (textOf l n).toList
    rw [toList_L, toList_L, textOf_L, textOf_L, Int.toNat_natCast, List.take_take, Nat.min_eq_left (by omega)]
/-- The first token of what is left. -/
theorem toks_head (n : Nat) (i : Nat) (sp : Bool) (line : List ByteArray) (l : List UInt8) (hl : l.length = n) : ∀ p r, toksF i sp line l = p :: r → p.2 = 0 → p.1.f4 = false →
    sp = false ∧ l ≠ [] ∧ whtU (l.headD 0) = false ∧ ∃ m : Nat, 0 < m ∧ m ≤ l.length ∧ firstI l (namesU line) = (p.1.f0, (m : Int), 0) ∧ p.1.f1 = textOf l m := by
  refine toks_ind (fun i sp line l ts => ∀ p r, ts = p :: r → p.2 = 0 → p.1.f4 = false → sp = false ∧ l ≠ [] ∧ whtU (l.headD 0) = false ∧ ∃ m : Nat, 0 < m ∧ m ≤ l.length ∧ firstI l (namesU line) = (p.1.f0, (m : Int), 0) ∧ p.1.f1 = textOf l m) ?_ ?_ ?_ ?_ n i sp line l hl
  · intro i sp line p r h; simp at h
  · intro i sp line a r hw ih p q h h2 h3
    exact absurd (ih p q h h2 h3).1 (by decide)
  · intro i sp line a r k m hw hf h0 hm ih p q h h2 h3
    obtain ⟨rfl, _⟩ := List.cons.inj h
    exact ⟨h3, by simp, hw, m, h0, hm, hf, rfl⟩
  · intro i sp line a r e hw hf he p q h h2 h3
    obtain ⟨rfl, _⟩ := List.cons.inj h
    have : e = 0 := h2
    omega
/-- Whether a header's name may stand makes no difference but for one. -/
theorem first_names (l : List UInt8) (b : Bool) (k n e : Int) (h : firstI l b = (k, n, e)) (hk : k ≠ 7) : firstI l false = (k, n, e) := by
  unfold firstI firstG at h ⊢
  split at h
  · exact absurd (Prod.mk.inj h).1.symm hk
  · rw [if_neg (fun hh => by simp at hh)]; exact h
theorem munch_l (n : Nat) (i : Nat) (sp : Bool) (line : List ByteArray) (l : List UInt8) (hl : l.length = n) : ∀ (pre : List (S26 × Int)) x y post, toksF i sp line l = pre ++ x :: y :: post → x.2 = 0 → y.2 = 0 → y.1.f4 = false → x.1.f0 ≠ 7 → y.1.f0 ≠ 7 →
    fuseT x.1.f1 y.1.f1 = (false, 0) := by
  refine toks_ind (fun i sp line l ts => ∀ (pre : List (S26 × Int)) x y post, ts = pre ++ x :: y :: post → x.2 = 0 → y.2 = 0 → y.1.f4 = false → x.1.f0 ≠ 7 → y.1.f0 ≠ 7 → fuseT x.1.f1 y.1.f1 = (false, 0)) ?_ ?_ ?_ ?_ n i sp line l hl
  · intro i sp line pre x y post h; simp at h
  · intro i sp line a r hw ih; exact ih
  · intro i sp line a r k m hw hf h0 hm ih pre x y post h h1 h2 h3 h4 h5
    cases pre with
    | cons z pre => exact ih pre x y post (List.cons.inj h).2 h1 h2 h3 h4 h5
    | nil =>
      obtain ⟨rfl, hy⟩ := List.cons.inj h
      obtain ⟨_, g2, g3, j, g4, g5, g6, g7⟩ := toks_head _ _ _ _ _ rfl y post hy h2 h3
      have := side_fuse (a :: r) k y.1.f0 m j ⟨g2, first_names _ _ _ _ _ hf h4, first_names _ _ _ _ _ g6 h5, h0, g4, by rw [List.length_drop] at g5; omega, hw, g3⟩
      rw [g7]; exact this
  · intro i sp line a r e hw hf he pre x y post h
    cases pre with
    | nil => simp at h
    | cons z pre => simp at h
end Go.Proofs.Ytonfmnohmigjpaa.P
/- What white space behind a text changes of its first token (parts). -/
namespace Go.Proofs.Ytonfmnohmigjpaa.P
open Go.RowKit Go.Proofs.YtonfmnohmigjpaaW.PrintWords Go.Proofs.YtonfmnohmigjpaaW.PrintLast
/-! A token, and white space or a line's end behind it. -/
def sepU (d : UInt8) : Bool := d == 32 || d == 9 || d == 11 || d == 12 || d == 10
theorem sep_no : ∀ n : Fin 256, sepU n.1.toUInt8 = true → (ltrU n.1.toUInt8 || dgtU n.1.toUInt8 || sgnU n.1.toUInt8 || n.1.toUInt8 == 46 || n.1.toUInt8 == 34 || n.1.toUInt8 == 39 || n.1.toUInt8 == 47 || n.1.toUInt8 == 42 || n.1.toUInt8 == 117 || n.1.toUInt8 == 56 || n.1.toUInt8 == 85 || n.1.toUInt8 == 76) = false := by decide +kernel
theorem sep_all (d : UInt8) (h : sepU d = true) : ltrU d = false ∧ dgtU d = false ∧ sgnU d = false ∧ d ≠ 46 ∧ d ≠ 34 ∧ d ≠ 39 ∧ d ≠ 47 ∧ d ≠ 42 ∧ d ≠ 117 ∧ d ≠ 56 ∧ d ≠ 85 ∧ d ≠ 76 := by
  have := sep_no ⟨d.toNat, d.toNat_lt⟩
  simp only [u8_fin, Bool.or_eq_false_iff, beq_eq_false_iff_ne, ne_eq, and_assoc] at this
  exact this h
theorem wordT_sep (d : UInt8) (hd : sepU d = true) (z : List UInt8) : ∀ l : List UInt8, wordT (l ++ d :: z) = wordT l := by
  intro l
  induction l with
  | nil => obtain ⟨h1, h2, _⟩ := sep_all d hd; simp [wordT, h1, h2]
  | cons c r ih => rw [List.cons_append, wordT, wordT, ih]
theorem wordF_sep (d : UInt8) (hd : sepU d = true) (z : List UInt8) (l : List UInt8) : wordF (l ++ d :: z) = wordF l := by
  cases l with
  | nil => obtain ⟨h1, h2, _⟩ := sep_all d hd; simp [wordF, h1]
  | cons c r => rw [List.cons_append, wordF, wordF, wordT_sep d hd]
theorem numT_d (d : UInt8) (hd : sepU d = true) (z : List UInt8) : numT (d :: z) = 0 := by
  obtain ⟨h1, h2, h3, h4, _⟩ := sep_all d hd
  have h5 : (d == 46) = false := beq_eq_false_iff_ne.mpr h4
  have h6 : expU d = false := by
    cases h : expU d with
    | false => rfl
    | true =>
      unfold expU at h
      unfold ltrU at h1
      simp only [Bool.or_eq_true, beq_iff_eq] at h
      rcases h with ((rfl | rfl) | rfl) | rfl <;> exact absurd h1 (by decide)
  cases z with
  | nil => rw [numT, h1, h2, h5]; rfl
  | cons e z => rw [numT, h6, h1, h2, h5]; rfl
theorem numT_sep (d : UInt8) (hd : sepU d = true) (z : List UInt8) : ∀ (k : Nat) (l : List UInt8), l.length = k → numT (l ++ d :: z) = numT l := by
  have h0 := numT_d d hd z
  obtain ⟨h1, h2, h3, h4, _⟩ := sep_all d hd
  intro k
  induction k using Nat.strongRecOn with
  | _ k ih =>
    intro l hl
    match l, hl with
    | [], _ => rw [List.nil_append, h0]; rfl
    | [c], _ =>
      simp [numT, h3, h0]
    | c :: e :: r, hl =>
      simp only [List.length_cons] at hl
      have i1 := ih r.length (by omega) r rfl
      have i2 := ih (e :: r).length (by simp; omega) (e :: r) rfl
      rw [List.cons_append] at i2
      rw [List.cons_append, List.cons_append, numT, numT, i1, i2]
theorem numF_sep (d : UInt8) (hd : sepU d = true) (z l : List UInt8) : numF (l ++ d :: z) = numF l := by
  have h0 := numT_d d hd z
  obtain ⟨h1, h2, h3, h4, _⟩ := sep_all d hd
  have h5 : (d == 46) = false := beq_eq_false_iff_ne.mpr h4
  match l with
  | [] =>
    rw [List.nil_append]
    cases z with
    | nil => simp [numF, h2]
    | cons e z => simp [numF, h2, h4]
  | [c] => simp [numF, h0, h2]
  | c :: e :: r =>
    have i1 := numT_sep d hd z _ r rfl
    have i2 := numT_sep d hd z _ (e :: r) rfl
    rw [List.cons_append] at i2
    rw [List.cons_append, List.cons_append, numF, numF, i1, i2]
def pcts : List (List UInt8) := [[37, 58, 37, 58], [46, 46, 46], [60, 60, 61], [62, 62, 61], [45, 62], [43, 43], [45, 45], [60, 60], [62, 62], [60, 61], [62, 61], [61, 61], [33, 61], [38, 38], [124, 124], [42, 61], [47, 61], [37, 61], [43, 61], [45, 61], [38, 61], [94, 61], [124, 61], [35, 35], [60, 58], [58, 62], [60, 37], [37, 62], [37, 58], [91], [93], [40], [41], [123], [125], [46], [38], [42], [43], [45], [126], [33], [47], [37], [60], [62], [94], [124], [63], [58], [59], [61], [44], [35]]
theorem pct_mem (t : List UInt8) (h : isPct t = true) : t ∈ pcts := by
  unfold isPct at h
  simp only [Bool.or_eq_true, beq_iff_eq] at h
  simp only [pcts, List.mem_cons, List.not_mem_nil, or_false]
  exact h
theorem pcts_bytes : pcts.all (fun t => t.all (fun c => !(sepU c) && c != 34 && c != 39 && c != 92)) = true := by decide +kernel
theorem pct_bytes (t : List UInt8) (h : isPct t = true) (c : UInt8) (hc : c ∈ t) : sepU c = false ∧ c ≠ 34 ∧ c ≠ 39 := by
  have := List.all_eq_true.1 (List.all_eq_true.1 pcts_bytes t (pct_mem t h)) c hc
  simp only [Bool.and_eq_true, Bool.not_eq_true', bne_iff_ne, ne_eq] at this
  exact ⟨this.1.1.1, this.1.1.2, this.1.2⟩
theorem pctN_sep (d : UInt8) (hd : sepU d = true) (z l : List UInt8) (j : Nat) : pctN (l ++ d :: z) j = pctN l j := by
  unfold pctN
  by_cases h : j ≤ l.length
  · rw [decide_eq_true h, decide_eq_true (by simp; omega), List.take_append_of_le_length h]
  · rw [decide_eq_false h, Bool.false_and]
    cases h1 : isPct ((l ++ d :: z).take j) with
    | false => rw [Bool.and_false]
    | true =>
      have : d ∈ (l ++ d :: z).take j := by
        rw [List.take_append, List.mem_append]
        right
        obtain ⟨q, hq⟩ : ∃ q, j - l.length = q + 1 := ⟨j - l.length - 1, by omega⟩
        rw [hq, List.take_succ_cons]
        exact List.mem_cons_self
      have := (pct_bytes _ h1 d this).1
      rw [hd] at this
      exact absurd this (by decide)
theorem punctF_sep (d : UInt8) (hd : sepU d = true) (z l : List UInt8) : punctF (l ++ d :: z) = punctF l := by
  unfold punctF
  simp only [pctN_sep d hd]
theorem litF_first {q c : UInt8} {r : List UInt8} (h : c ≠ q) : litF q (c :: r) = 0 := by
  rw [litF, if_neg h]
theorem litF_ext (q : UInt8) (l z : List UInt8) (h : 0 < litF q l) : litF q (l ++ z) = litF q l := by
  cases l with
  | nil => simp [litF] at h
  | cons c r =>
    rw [List.cons_append]
    unfold litF at h ⊢
    simp only at h ⊢
    split
    · rename_i e; rw [if_pos e] at h
      by_cases e2 : q = 39 ∧ r.head? = some 39
      · rw [if_pos e2] at h; simp at h
      · rw [if_neg e2] at h ⊢
        cases h1 : litT q r with
        | none => rw [h1] at h; simp at h
        | some n =>
          rw [litT_ext q _ r z n rfl h1]
          have hr : r ≠ [] := by intro hr; rw [hr] at h1; simp [litT] at h1
          have e3 : ¬ (q = 39 ∧ (r ++ z).head? = some 39) := fun hh => e2 ⟨hh.1, by rw [← hh.2]; cases r with | nil => exact absurd rfl hr | cons => rfl⟩
          rw [if_neg e3]
    · rfl
/-- The prefixes of a literal. -/
def pfx (p : List UInt8) : Prop := p = [117, 56] ∨ p = [117] ∨ p = [85] ∨ p = [76] ∨ p = []
theorem pfx_no {p : List UInt8} (h : pfx p) : ∀ c ∈ p, c ≠ 34 ∧ c ≠ 39 ∧ sepU c = false := by
  rcases h with rfl | rfl | rfl | rfl | rfl
  · decide
  · decide
  · decide
  · decide
  · decide
theorem quoP_at {p l : List UInt8} {r : Nat × Nat} (h : quoP p l = some r) : p.length < r.2 ∧ l.take p.length = p ∧ ((l.drop p.length).headD 0 = 34 ∨ (l.drop p.length).headD 0 = 39) ∧ l.drop p.length ≠ [] := by
  have key : ∀ q x, 0 < litF q x → x.headD 0 = q ∧ x ≠ [] := by
    intro q x hx
    cases x with
    | nil => simp [litF] at hx
    | cons c x =>
      by_cases e : c = q
      · exact ⟨e, by simp⟩
      · rw [litF_first e] at hx; omega
  unfold quoP at h
  split at h
  · rename_i h0
    have h0 := of_decide_eq_true h0
    split at h
    · rename_i h1
      obtain rfl := Option.some.inj h
      exact ⟨Nat.lt_add_of_pos_right h1, h0, .inl (key _ _ h1).1, (key _ _ h1).2⟩
    · split at h
      · rename_i h1
        obtain rfl := Option.some.inj h
        exact ⟨Nat.lt_add_of_pos_right h1.1, h0, .inr (key _ _ h1.1).1, (key _ _ h1.1).2⟩
      · simp at h
  · simp at h
/-- No quote at the place behind the prefix: no literal. -/
theorem quoP_no {p l : List UInt8} (h : begU p l = true → (l.drop p.length).headD 0 ≠ 34 ∧ (l.drop p.length).headD 0 ≠ 39) : quoP p l = none := by
  cases h1 : quoP p l with
  | none => rfl
  | some r =>
    obtain ⟨g1, g2, g3, g4⟩ := quoP_at h1
    have := h (decide_eq_true g2)
    rcases g3 with g | g
    · exact absurd g this.1
    · exact absurd g this.2
theorem head_at (l : List UInt8) (i : Nat) : (l.drop i).headD 0 = l.getD i 0 := by
  rw [List.headD_eq_head?_getD, List.head?_drop, List.getD_eq_getElem?_getD]
theorem quoP_uniq {p p' l : List UInt8} {r r' : Nat × Nat} (hp : pfx p) (hp' : pfx p') (h : quoP p l = some r) (h' : quoP p' l = some r') : p = p' := by
  have key : ∀ {p p' : List UInt8} {r r' : Nat × Nat}, pfx p → pfx p' → quoP p l = some r → quoP p' l = some r' → ¬ p.length < p'.length := by
    intro p p' r r' hp hp' h h' hlt
    obtain ⟨g1, g2, g3, g4⟩ := quoP_at h
    obtain ⟨k1, k2, k3, k4⟩ := quoP_at h'
    have hl := congrArg List.length k2
    rw [List.length_take] at hl
    have hm : l.getD p.length 0 ∈ p' := by
      rw [← k2]
      rw [List.getD_eq_getElem?_getD, List.getElem?_eq_getElem (by omega), Option.getD_some]
      rw [List.mem_take_iff_getElem]
      exact ⟨p.length, by omega, rfl⟩
    have := pfx_no hp' _ hm
    rw [← head_at] at this
    rcases g3 with g | g
    · exact this.1 g
    · exact this.2.1 g
  have e : p.length = p'.length := Nat.le_antisymm (Nat.not_lt.1 (key hp' hp h' h)) (Nat.not_lt.1 (key hp hp' h h'))
  rw [← (quoP_at h).2.1, ← (quoP_at h').2.1, e]
theorem quoF_of {p l : List UInt8} {r : Nat × Nat} (hp : pfx p) (h : quoP p l = some r) : quoF l = r := by
  have no : ∀ p', pfx p' → p ≠ p' → quoP p' l = none := by
    intro p' hp' hne
    cases h1 : quoP p' l with
    | none => rfl
    | some r' => exact absurd (quoP_uniq hp hp' h h1) hne
  unfold quoF
  rcases hp with rfl | rfl | rfl | rfl | rfl
  · rw [h]; rfl
  · rw [h, no [117, 56] (.inl rfl) (by decide)]; rfl
  · rw [h, no [117, 56] (.inl rfl) (by decide), no [117] (.inr (.inl rfl)) (by decide)]; rfl
  · rw [h, no [117, 56] (.inl rfl) (by decide), no [117] (.inr (.inl rfl)) (by decide), no [85] (.inr (.inr (.inl rfl))) (by decide)]; rfl
  · rw [h, no [117, 56] (.inl rfl) (by decide), no [117] (.inr (.inl rfl)) (by decide), no [85] (.inr (.inr (.inl rfl))) (by decide), no [76] (.inr (.inr (.inr (.inl rfl)))) (by decide)]; rfl
theorem quoF_some {l : List UInt8} (h : 0 < (quoF l).2) : ∃ p, pfx p ∧ quoP p l = some (quoF l) := by
  unfold quoF at h ⊢
  rw [getD_or, getD_or, getD_or, getD_or] at h ⊢
  cases h1 : quoP [117, 56] l with
  | some r => exact ⟨_, .inl rfl, h1⟩
  | none =>
  cases h2 : quoP [117] l with
  | some r => exact ⟨_, .inr (.inl rfl), h2⟩
  | none =>
  cases h3 : quoP [85] l with
  | some r => exact ⟨_, .inr (.inr (.inl rfl)), h3⟩
  | none =>
  cases h4 : quoP [76] l with
  | some r => exact ⟨_, .inr (.inr (.inr (.inl rfl))), h4⟩
  | none =>
  cases h5 : quoP [] l with
  | some r => exact ⟨_, .inr (.inr (.inr (.inr rfl))), h5⟩
  | none => rw [h1, h2, h3, h4, h5] at h; exact absurd h (by decide)
theorem quoP_ext {p l : List UInt8} {r : Nat × Nat} (z : List UInt8) (h : quoP p l = some r) : quoP p (l ++ z) = some r := by
  obtain ⟨g1, g2, g3, g4⟩ := quoP_at h
  have hl := congrArg List.length g2
  rw [List.length_take] at hl
  unfold quoP at h ⊢
  split at h
  · rename_i h0
    have e : (l ++ z).drop p.length = l.drop p.length ++ z := by rw [List.drop_append_of_le_length (by omega)]
    rw [begU_ext h0, if_pos rfl, e]
    split at h
    · rename_i h1
      rw [litF_ext 34 _ z h1, if_pos h1]; exact h
    · rename_i h1
      split at h
      · rename_i h2
        have h3 : litF 34 (l.drop p.length ++ z) = 0 := by
          have h4 : (l.drop p.length).headD 0 = 39 := by
            obtain ⟨c, x, hx⟩ : ∃ c x, l.drop p.length = c :: x := by
              cases hx : l.drop p.length with
              | nil => exact absurd hx g4
              | cons c x => exact ⟨c, x, rfl⟩
            rw [hx] at h2 ⊢
            by_cases e : c = 39
            · exact e
            · rw [litF_first e] at h2; exact absurd h2.1 (by omega)
          obtain ⟨c, x, hx⟩ : ∃ c x, l.drop p.length = c :: x := by
            cases hx : l.drop p.length with
            | nil => exact absurd hx g4
            | cons c x => exact ⟨c, x, rfl⟩
          rw [hx] at h4 ⊢
          have h4 : c = 39 := h4
          rw [List.cons_append, litF_first (by rw [h4]; decide)]
        rw [h3, if_neg (by omega), litF_ext 39 _ z h2.1, if_pos h2]; exact h
      · simp at h
  · simp at h
theorem quoF_ext (l z : List UInt8) (h : 0 < (quoF l).2) : quoF (l ++ z) = quoF l := by
  obtain ⟨p, hp, h1⟩ := quoF_some h
  exact quoF_of hp (quoP_ext z h1)
/-- Where no quote stands ahead of the white space, there is no literal. -/
theorem quoF_sep (d : UInt8) (hd : sepU d = true) (z t : List UInt8) (ht : ∀ c ∈ t, c ≠ 34 ∧ c ≠ 39) : quoF (t ++ d :: z) = (0, 0) := by
  obtain ⟨_, _, _, _, d1, d2, _⟩ := sep_all d hd
  have no : ∀ p, pfx p → quoP p (t ++ d :: z) = none := by
    intro p hp
    refine quoP_no fun hb => ?_
    have hb := of_decide_eq_true hb
    rcases Nat.lt_trichotomy p.length t.length with h | h | h
    · have : ((t ++ d :: z).drop p.length).headD 0 = t.getD p.length 0 := by
        rw [head_at, List.getD_eq_getElem?_getD, List.getD_eq_getElem?_getD, List.getElem?_append_left h]
      rw [this, List.getD_eq_getElem?_getD, List.getElem?_eq_getElem h, Option.getD_some]
      exact ht _ (List.getElem_mem h)
    · have : ((t ++ d :: z).drop p.length).headD 0 = d := by
        rw [h, List.drop_left]; rfl
      rw [this]; exact ⟨d1, d2⟩
    · exfalso
      have : d ∈ (t ++ d :: z).take p.length := by
        rw [List.take_append, List.mem_append]
        right
        obtain ⟨q, hq⟩ : ∃ q, p.length - t.length = q + 1 := ⟨p.length - t.length - 1, by omega⟩
        rw [hq, List.take_succ_cons]
        exact List.mem_cons_self
      rw [hb] at this
      have := (pfx_no hp _ this).2.2
      rw [hd] at this
      exact absurd this (by decide)
  unfold quoF
  rw [no _ (.inl rfl), no _ (.inr (.inl rfl)), no _ (.inr (.inr (.inl rfl))), no _ (.inr (.inr (.inr (.inl rfl)))), no _ (.inr (.inr (.inr (.inr rfl))))]
  rfl
theorem wordT_bytes : ∀ (l : List UInt8), ∀ c ∈ l.take (wordT l), ltrU c = true ∨ dgtU c = true := by
  intro l
  induction l with
  | nil => intro c h; simp at h
  | cons a r ih =>
    intro c h
    unfold wordT at h
    split at h
    · rename_i e
      rw [List.take_succ_cons, List.mem_cons] at h
      rcases h with rfl | h
      · simpa using e
      · exact ih c h
    · simp at h
theorem noq_all : ∀ n : Fin 256, (ltrU n.1.toUInt8 || dgtU n.1.toUInt8 || sgnU n.1.toUInt8 || n.1.toUInt8 == 46) = true → (n.1.toUInt8 != 34 && n.1.toUInt8 != 39) = true := by decide +kernel
theorem noq (c : UInt8) (h : ltrU c = true ∨ dgtU c = true ∨ sgnU c = true ∨ c = 46) : c ≠ 34 ∧ c ≠ 39 := by
  have := noq_all ⟨c.toNat, c.toNat_lt⟩
  simp only [u8_fin, Bool.or_eq_true, beq_iff_eq, Bool.and_eq_true, bne_iff_ne, ne_eq, or_assoc] at this
  exact this h
theorem wordF_bytes (l : List UInt8) : ∀ c ∈ l.take (wordF l), c ≠ 34 ∧ c ≠ 39 := by
  cases l with
  | nil => intro c h; simp at h
  | cons a r =>
    intro c h
    unfold wordF at h
    simp only at h
    split at h
    · rename_i e
      rw [List.take_succ_cons, List.mem_cons] at h
      rcases h with rfl | h
      · exact noq _ (.inl e)
      · rcases wordT_bytes r c h with h | h
        · exact noq _ (.inl h)
        · exact noq _ (.inr (.inl h))
    · simp at h
theorem expU_ltr : ∀ n : Fin 256, expU n.1.toUInt8 = true → ltrU n.1.toUInt8 = true := by decide +kernel
theorem exp_ltr (c : UInt8) (h : expU c = true) : ltrU c = true := by
  have := expU_ltr ⟨c.toNat, c.toNat_lt⟩
  rw [u8_fin] at this
  exact this h
theorem numT_bytes : ∀ (k : Nat) (l : List UInt8), l.length = k → ∀ c ∈ l.take (numT l), c ≠ 34 ∧ c ≠ 39 := by
  intro k
  induction k using Nat.strongRecOn with
  | _ k ih =>
    intro l hl c h
    have dot : ∀ a : UInt8, (dgtU a || ltrU a || a == 46) = true → a ≠ 34 ∧ a ≠ 39 := by
      intro a ha
      simp only [Bool.or_eq_true, beq_iff_eq] at ha
      rcases ha with (ha | ha) | ha
      · exact noq _ (.inr (.inl ha))
      · exact noq _ (.inl ha)
      · exact noq _ (.inr (.inr (.inr ha)))
    match l, hl, h with
    | [], _, h => simp at h
    | [a], _, h =>
      rw [numT] at h
      split at h
      · rename_i e
        simp at h
        subst h
        exact dot _ e
      · simp at h
    | a :: b :: r, hl, h =>
      simp only [List.length_cons] at hl
      rw [numT] at h
      split at h
      · rename_i e
        rw [Bool.and_eq_true] at e
        rw [List.take_succ_cons, List.take_succ_cons, List.mem_cons, List.mem_cons] at h
        rcases h with rfl | rfl | h
        · exact noq _ (.inl (exp_ltr _ e.1))
        · exact noq _ (.inr (.inr (.inl e.2)))
        · exact ih r.length (by omega) r rfl c h
      · split at h
        · rename_i e
          rw [List.take_succ_cons, List.mem_cons] at h
          rcases h with rfl | h
          · exact dot _ e
          · exact ih (b :: r).length (by simp; omega) (b :: r) rfl c h
        · simp at h
theorem numF_bytes (l : List UInt8) : ∀ c ∈ l.take (numF l), c ≠ 34 ∧ c ≠ 39 := by
  intro c h
  match l, h with
  | [], h => simp at h
  | [a], h =>
    rw [numF] at h
    split at h
    · rename_i e
      simp at h
      subst h
      exact noq _ (.inr (.inl e))
    · simp at h
  | a :: b :: r, h =>
    rw [numF] at h
    split at h
    · rename_i e
      rw [List.take_succ_cons, List.mem_cons] at h
      rcases h with rfl | h
      · exact noq _ (.inr (.inl e))
      · exact numT_bytes _ (b :: r) rfl c h
    · split at h
      · rename_i e
        rw [Bool.and_eq_true, beq_iff_eq] at e
        rw [List.take_succ_cons, List.take_succ_cons, List.mem_cons, List.mem_cons] at h
        rcases h with rfl | rfl | h
        · exact noq _ (.inr (.inr (.inr e.1)))
        · exact noq _ (.inr (.inl e.2))
        · exact numT_bytes _ r rfl c h
      · simp at h
theorem punctF_pct (l : List UInt8) (h : 0 < punctF l) : isPct (l.take (punctF l)) = true := by
  have key : ∀ j, pctN l j = true → isPct (l.take j) = true := by
    intro j hj
    unfold pctN at hj
    rw [Bool.and_eq_true] at hj
    exact hj.2
  unfold punctF at h ⊢
  cases h4 : pctN l 4 with
  | true => exact key 4 h4
  | false =>
  cases h3 : pctN l 3 with
  | true => exact key 3 h3
  | false =>
  cases h2 : pctN l 2 with
  | true => exact key 2 h2
  | false =>
  cases h1 : pctN l 1 with
  | true => exact key 1 h1
  | false => rw [h4, h3, h2, h1] at h; exact absurd h (by decide)
theorem punctF_bytes (l : List UInt8) : ∀ c ∈ l.take (punctF l), c ≠ 34 ∧ c ≠ 39 := by
  intro c h
  rcases Nat.eq_zero_or_pos (punctF l) with e | e
  · rw [e] at h; simp at h
  · exact (pct_bytes _ (punctF_pct l e) c h).2
theorem comF_begs {l : List UInt8} (h : comF l = some 0) : begU [47, 47] l = false ∧ begU [47, 42] l = false := by
  unfold comF at h
  split at h
  · rename_i e
    exfalso
    match l, e, h with
    | [], e, _ => exact absurd e (by decide)
    | [a], e, _ => simp [begU] at e
    | a :: b :: r, e, h =>
      simp [begU] at e
      obtain ⟨rfl, rfl⟩ := e
      simp [lineE] at h
  · rename_i e
    split at h
    · rw [Option.map_eq_some_iff] at h
      obtain ⟨k, _, h⟩ := h
      omega
    · rename_i e2
      exact ⟨by simpa using e, by simpa using e2⟩
theorem comF_sep (d : UInt8) (hd : sepU d = true) (z t : List UInt8) (h : comF t = some 0) : comF (t ++ d :: z) = some 0 := by
  obtain ⟨_, _, _, _, _, _, d1, d2, _⟩ := sep_all d hd
  obtain ⟨h1, h2⟩ := comF_begs h
  have key : ∀ e : UInt8, d ≠ e → begU [47, e] t = false → begU [47, e] (t ++ d :: z) = false := by
    intro e he hb
    match t, hb with
    | [], _ =>
      have : d ≠ 47 := d1
      simp [begU, this]
    | [a], _ => simp [begU, he]
    | a :: b :: r, hb => simpa [begU] using hb
  unfold comF
  rw [key 47 d1 h1, key 42 d2 h2]; rfl
end Go.Proofs.Ytonfmnohmigjpaa.P
/- Words and numbers hold no line end. -/
namespace Go.Proofs.Ytonfmnohmigjpaa.P
open Go.RowKit Go.Proofs.YtonfmnohmigjpaaW.PrintWords Go.Proofs.YtonfmnohmigjpaaW.PrintLast
/-! Behind a line's end more may stand: the tokens ahead of it are the same. -/
theorem no_all : ∀ n : Fin 256, (ltrU n.1.toUInt8 || dgtU n.1.toUInt8 || sgnU n.1.toUInt8 || n.1.toUInt8 == 46) = true → (n.1.toUInt8 != 10) = true := by decide +kernel
theorem no10 (c : UInt8) (h : ltrU c = true ∨ dgtU c = true ∨ sgnU c = true ∨ c = 46) : c ≠ 10 := by
  have := no_all ⟨c.toNat, c.toNat_lt⟩
  simp only [u8_fin, Bool.or_eq_true, beq_iff_eq, bne_iff_ne, ne_eq, or_assoc] at this
  exact this h
theorem wordF_no10 (l : List UInt8) : (10 : UInt8) ∉ l.take (wordF l) := by
  intro h
  cases l with
  | nil => simp at h
  | cons a r =>
    unfold wordF at h
    simp only at h
    split at h
    · rename_i e
      rw [List.take_succ_cons, List.mem_cons] at h
      rcases h with h | h
      · exact no10 _ (.inl e) h.symm
      · rcases wordT_bytes r _ h with h | h
        · exact absurd h (by decide)
        · exact absurd h (by decide)
    · simp at h
theorem numT_no10 : ∀ (k : Nat) (l : List UInt8), l.length = k → (10 : UInt8) ∉ l.take (numT l) := by
  intro k
  induction k using Nat.strongRecOn with
  | _ k ih =>
    intro l hl h
    match l, hl, h with
    | [], _, h => simp at h
    | [a], _, h =>
      rw [numT] at h
      split at h
      · rename_i e
        simp at h
        subst h
        exact absurd e (by decide)
      · simp at h
    | a :: b :: r, hl, h =>
      simp only [List.length_cons] at hl
      rw [numT] at h
      split at h
      · rename_i e
        rw [Bool.and_eq_true] at e
        rw [List.take_succ_cons, List.take_succ_cons, List.mem_cons, List.mem_cons] at h
        rcases h with rfl | rfl | h
        · exact absurd e.1 (by decide)
        · exact absurd e.2 (by decide)
        · exact ih r.length (by omega) r rfl h
      · split at h
        · rename_i e
          rw [List.take_succ_cons, List.mem_cons] at h
          rcases h with rfl | h
          · exact absurd e (by decide)
          · exact ih (b :: r).length (by simp; omega) (b :: r) rfl h
        · simp at h
theorem numF_no10 (l : List UInt8) : (10 : UInt8) ∉ l.take (numF l) := by
  intro h
  match l, h with
  | [], h => simp at h
  | [a], h =>
    rw [numF] at h
    split at h
    · rename_i e
      simp at h
      subst h
      exact absurd e (by decide)
    · simp at h
  | a :: b :: r, h =>
    rw [numF] at h
    split at h
    · rename_i e
      rw [List.take_succ_cons, List.mem_cons] at h
      rcases h with rfl | h
      · exact absurd e (by decide)
      · exact numT_no10 _ (b :: r) rfl h
    · split at h
      · rename_i e
        rw [Bool.and_eq_true, beq_iff_eq] at e
        rw [List.take_succ_cons, List.take_succ_cons, List.mem_cons, List.mem_cons] at h
        rcases h with rfl | rfl | h
        · exact absurd e.1 (by decide)
        · exact absurd e.2 (by decide)
        · exact numT_no10 _ r rfl h
      · simp at h
end Go.Proofs.Ytonfmnohmigjpaa.P
