/- What is left of 'LinesDepths' once the Go code is walked: the two functions that tell how deep rows stand answer the same, for any rows. -/
import Derived.Test.YtonfmnohmigjpaaF4
import Derived.Test.YtonfmnohmigjpaaHd
import Derived.Test.YtonfmnohmigjpaaOpn
namespace Go.Proofs.Ytonfmnohmigjpaa.P
open Go.RowKit Go.Proofs.YtonfmnohmigjpaaW.PrintWords Go.Proofs.YtonfmnohmigjpaaW.PrintLast Go.Proofs.YtonfmnohmigjpaaW.PrintMore

theorem Ev.steps {α : Type} {g f : Nat → Option α} {r : α} (n : Nat) (h : ∀ k, g (k + n) = f k) (k : Ev f r) : Ev g r := by
  obtain ⟨K, k⟩ := k
  refine ⟨K + n, fun m hm => ?_⟩
  obtain ⟨q, rfl⟩ : ∃ q, m = q + n := ⟨m - n, by omega⟩
  rw [h]
  exact k q (by omega)
theorem Ev.done {α : Type} {g : Nat → Option α} {r : α} (n : Nat) (h : ∀ k, g (k + n) = some r) : Ev g r := Ev.steps n h (Ev.now r)

/-! ### lists -/
theorem same26_l (l : List S26) (hn : l.length ≤ 140737488351232) (d : Nat) : ∀ (k : Nat) (i : Nat), i ≤ l.length → l.length - i = d → d < k → regletref02_Same.l0 k l l (i : Int) = some true := by
  induction d with
  | zero =>
    intro k i h1 hd hk
    obtain ⟨k, rfl⟩ : ∃ m, k = m + 1 := ⟨k - 1, by omega⟩
    simp only [regletref02_Same.l0]
    rw [if_neg (by omega)]
  | succ d ih =>
    intro k i h1 hd hk
    obtain ⟨k, rfl⟩ : ∃ m, k = m + 1 := ⟨k - 1, by omega⟩
    simp only [regletref02_Same.l0]
    rw [if_pos (by omega), if_pos (by omega), if_pos (by omega), if_neg (by simp), w64_succ i _ (by omega) hn]
    exact ih k (i + 1) (by omega) (by omega) (by omega)
theorem same26 (l : List S26) (hn : l.length ≤ 140737488351232) : Ev (fun k => regletref02_Same.f k l l) true := by
  refine ⟨l.length + 1, fun k hk => ?_⟩
  show (if (l.length : Int) = (l.length : Int) then _ else _) = _
  rw [if_pos rfl]
  exact same26_l l hn l.length k 0 (by omega) (by omega) (by omega)
theorem getD_mem49 (l : List S49) (i : Nat) (h : i < l.length) : rd_T49 l (i : Int) ∈ l := by
  simp [rd_T49, List.getD_eq_getElem?_getD, h]
theorem same49_l (l : List S49) (hn : l.length ≤ 140737488351232) (hg : ∀ r ∈ l, r.f2.length ≤ 140737488351232) : ∀ (d : Nat) (i : Nat), i ≤ l.length → l.length - i = d → Ev (fun k => regletref03_Same.l0 k l l (i : Int)) true := by
  intro d
  induction d with
  | zero =>
    intro i h1 hd
    refine Ev.done 1 fun k => ?_
    simp only [regletref03_Same.l0]
    rw [if_neg (by omega)]
  | succ d ih =>
    intro i h1 hd
    have h2 := ih (i + 1) (by omega) (by omega)
    refine Ev.step (f := fun k => (regletref02_Same.f k ((rd_T49 l (i : Int)).f2) ((rd_T49 l (i : Int)).f2)).bind fun t => if t = true then regletref03_Same.l0 k l l ((i + 1 : Nat) : Int) else some false) (fun k => ?_) (Ev.bind (same26 _ (hg _ (getD_mem49 l i (by omega)))) ?_)
    · simp only [regletref03_Same.l0]
      rw [if_pos (by omega), if_pos (by omega), if_pos (by omega)]
      simp only [bne_self_eq_false, if_true, w64_succ i _ (show i < l.length by omega) hn]
      simp
    · simpa using h2
theorem same49 (l : List S49) (hn : l.length ≤ 140737488351232) (hg : ∀ r ∈ l, r.f2.length ≤ 140737488351232) : Ev (fun k => regletref03_Same.f k l l) true := by
  refine Ev.congr (f := fun k => regletref03_Same.l0 k l l ((0 : Nat) : Int)) (fun k => ?_) (same49_l l hn hg l.length 0 (by omega) (by omega))
  show (if (l.length : Int) = (l.length : Int) then _ else _) = _
  rw [if_pos rfl]; rfl
theorem ints_l (l : List Int) (hn : l.length ≤ 140737488351232) : ∀ (d : Nat) (i : Nat), i ≤ l.length → l.length - i = d → Ev (fun k => regletref03_Ints.l0 k l l (i : Int)) true := by
  intro d
  induction d with
  | zero =>
    intro i h1 hd
    refine Ev.done 1 fun k => ?_
    simp only [regletref03_Ints.l0]
    rw [if_neg (by omega)]
  | succ d ih =>
    intro i h1 hd
    refine Ev.step (fun k => ?_) (ih (i + 1) (by omega) (by omega))
    simp only [regletref03_Ints.l0]
    rw [if_pos (by omega), if_pos (by omega), if_pos (by omega)]
    simp only [if_true, w64_succ i _ (show i < l.length by omega) hn]
theorem ints_same (l : List Int) (hn : l.length ≤ 140737488351232) : Ev (fun k => regletref03_Ints.f k l l) true := by
  refine Ev.congr (f := fun k => regletref03_Ints.l0 k l l ((0 : Nat) : Int)) (fun k => ?_) (ints_l l hn l.length 0 (by omega) (by omega))
  show (if (l.length : Int) = (l.length : Int) then _ else _) = _
  rw [if_pos rfl]; rfl
theorem take_rd49 (l : List S49) (i : Nat) (h : i < l.length) : l.take (i + 1) = l.take i ++ [rd_T49 l (i : Int)] := by
  rw [List.take_succ_eq_append_getElem h]
  simp [rd_T49, List.getD_eq_getElem?_getD, h]
theorem twin_l (l : List S49) (hn : l.length ≤ 2932031007400) (hg : ∀ r ∈ l, r.f2.length ≤ 2932031007400) : ∀ (d : Nat) (i : Nat), i ≤ l.length → l.length - i = d → Ev (fun k => regletref03_Twin.l0 k l (l.take i) (i : Int)) l := by
  intro d
  induction d with
  | zero =>
    intro i h1 hd
    refine Ev.done 1 fun k => ?_
    simp only [regletref03_Twin.l0]
    rw [if_neg (by omega), List.take_of_length_le (by omega)]
  | succ d ih =>
    intro i h1 hd
    refine Ev.step (fun k => ?_) (ih (i + 1) (by omega) (by omega))
    have h2 := hg _ (getD_mem49 l i (by omega))
    simp only [regletref03_Twin.l0]
    rw [if_pos (by omega), if_pos (by omega), if_pos (by simp only [List.length_nil]; omega), if_pos (by rw [List.length_take]; omega), w64_succ i _ (show i < l.length by omega) (by omega), take_rd49 l i (by omega)]
    simp only [List.nil_append]
theorem twin_same (l : List S49) (hn : l.length ≤ 2932031007400) (hg : ∀ r ∈ l, r.f2.length ≤ 2932031007400) : Ev (fun k => regletref03_Twin.f k l) l :=
  Ev.congr (f := fun k => regletref03_Twin.l0 k l (l.take 0) ((0 : Nat) : Int)) (fun k => rfl) (twin_l l hn hg l.length 0 (by omega) (by omega))

/-! ### what a row does -/
def wIf : List UInt8 := [105, 102]
def wIfdef : List UInt8 := [105, 102, 100, 101, 102]
def wIfndef : List UInt8 := [105, 102, 110, 100, 101, 102]
def wElif : List UInt8 := [101, 108, 105, 102]
def wElse : List UInt8 := [101, 108, 115, 101]
def wEndif : List UInt8 := [101, 110, 100, 105, 102]
def nmB (r : S49) : ByteArray := if r.f0 = true then r.f1 else ⟨#[]⟩
def turnN (n : List UInt8) : Int := if n = wIf ∨ n = wIfdef ∨ n = wIfndef then 1 else if n = wElif then 2 else if n = wElse then 3 else if n = wEndif then 4 else 0
theorem turn_ev (r : S49) : Ev (fun k => regletref03_turn.f k r.f0 r.f1 r.f2) (turnN (nmB r).toList) := by
  refine Ev.done 1 fun k => ?_
  unfold regletref03_turn.f
  cases h : r.f0
  · simp only [nmB, h]
    simp [turnN, wIf, wIfdef, wIfndef, wElif, wElse, wEndif]
  · simp only [nmB, h, if_true, regletref03_turn.j0]
    generalize r.f1.toList = n
    unfold turnN wIf wIfdef wIfndef wElif wElse wEndif
    by_cases h1 : n = [105, 102]
    · simp [h1]
    · by_cases h2 : n = [105, 102, 100, 101, 102]
      · simp [h2]
      · by_cases h3 : n = [105, 102, 110, 100, 101, 102]
        · simp [h3]
        · simp only [h1, h2, h3, if_false, false_or, beq_eq_false_iff_ne.mpr h3]
          by_cases h4 : n = [101, 108, 105, 102]
          · simp [h4]
          · by_cases h5 : n = [101, 108, 115, 101]
            · simp [h5]
            · by_cases h6 : n = [101, 110, 100, 105, 102]
              · simp [h6]
              · simp [h4, h5, h6]

theorem w64_pred (n : Nat) (h : 0 < n) (hn : n ≤ 140737488351232) : wrap64 ((n : Int) - 1) = ((n - 1 : Nat) : Int) := by
  unfold wrap64; omega
theorem rdB (xs : List Bool) (n : Nat) : rdOf false xs (n : Int) = xs.getD n false := by simp [rdOf]
theorem rdI (xs : List Int) (n : Nat) : rd xs (n : Int) = xs.getD n 0 := by simp [rd]

section
variable (l : List S49)
/-- The program's step, by what a row does. -/
theorem dp_any (out : List Int) (op : List Bool) (i : Nat) (hi : i < l.length) (k : Nat) :
    lines_Depths.l0 (k + 1) out op l (l.length : Int) (i : Int) = lines_Depths.j1 k out op (op.length : Int) (nmB (rd_T49 l (i : Int))) l (l.length : Int) (i : Int) := by
  simp only [lines_Depths.l0]
  rw [if_pos (by omega), if_pos (by omega), if_pos (by omega)]
  unfold nmB
  split <;> rfl
theorem dp_j1 (out : List Int) (op : List Bool) (q : Int) (nm : ByteArray) (i : Nat) (k : Nat) :
    lines_Depths.j1 (k + 1) out op q nm l (l.length : Int) (i : Int) = lines_Depths.j2 k out op q nm l (l.length : Int) (i : Int) nm (decide (nm.toList = wIf ∨ nm.toList = wIfdef ∨ nm.toList = wIfndef)) := by
  simp only [lines_Depths.j1]
  unfold wIf wIfdef wIfndef
  generalize nm.toList = n
  by_cases h1 : n = [105, 102]
  · simp [h1]
  · by_cases h2 : n = [105, 102, 100, 101, 102]
    · simp [h2]
    · by_cases h3 : n = [105, 102, 110, 100, 101, 102]
      · simp [h3]
      · simp [h1, h2, h3, beq_eq_false_iff_ne.mpr h3]
theorem dp_j2 (out : List Int) (op : List Bool) (q : Int) (nm : ByteArray) (i : Nat) (k : Nat) :
    lines_Depths.j2 (k + 1) out op q nm l (l.length : Int) (i : Int) nm false = lines_Depths.j3 k out op q nm l (l.length : Int) (i : Int) (decide (nm.toList = wElif ∨ nm.toList = wElse ∨ nm.toList = wEndif)) := by
  simp only [lines_Depths.j2]
  unfold wElif wElse wEndif
  generalize nm.toList = n
  by_cases h1 : n = [101, 108, 105, 102]
  · simp [h1]
  · by_cases h2 : n = [101, 108, 115, 101]
    · simp [h2]
    · by_cases h3 : n = [101, 110, 100, 105, 102]
      · simp [h3]
      · simp [h1, h2, h3, beq_eq_false_iff_ne.mpr h3]


/-- The reference's round, behind what the row does. -/
def refB (out la : List Int) (i : Nat) (k : Nat) (t : Int) : Option (List Int × Int) :=
  if t > 1 then (if (la.length : Int) = 0 then (some (([] : List Int), 81)) else (if t < 4 then (if 0 ≤ (wrap64 ((la.length : Int) - 1)) then (if (wrap64 ((la.length : Int) - 1)) < (la.length : Int) then (if (rd la (wrap64 ((la.length : Int) - 1))) = 3 then (some (([] : List Int), 81)) else (regletref03_Depths.j1 k l out (la.set ((wrap64 ((la.length : Int) - 1)) : Int).toNat t) i t (wrap64 ((la.length : Int) - 1)))) else (none)) else (none)) else (if 0 ≤ (wrap64 ((la.length : Int) - 1)) then (if (wrap64 ((la.length : Int) - 1)) < (la.length : Int) then (regletref03_Depths.j1 k l out (la.set ((wrap64 ((la.length : Int) - 1)) : Int).toNat t) i t (wrap64 ((la.length : Int) - 1))) else (none)) else (none)))) else (regletref03_Depths.j1 k l out la i t (la.length : Int))
theorem ref_round (out la : List Int) (i : Nat) (hi : i < l.length) (res : List Int × Int) (h : Ev (fun k => refB l out la i k (turnN (nmB (rd_T49 l (i : Int))).toList)) res) :
    Ev (fun k => regletref03_Depths.l0 k l out la (i : Int)) res := by
  refine Ev.step (f := fun k => (regletref03_turn.f k (rd_T49 l (i : Int)).f0 (rd_T49 l (i : Int)).f1 (rd_T49 l (i : Int)).f2).bind (refB l out la i k)) (fun k => ?_) (Ev.bind (turn_ev _) h)
  simp only [regletref03_Depths.l0]
  rw [if_pos (by omega), if_pos (by omega)]
  rfl
theorem map3_snoc (la : List Int) : (la ++ [1]).map (fun v => v == 3) = la.map (fun v => v == 3) ++ [false] := by simp
theorem map3_get (la : List Int) (n : Nat) (h : n < la.length) : (la.map fun v => v == 3).getD n false = (la.getD n 0 == 3) := by
  simp [List.getD_eq_getElem?_getD, h]
theorem map3_set (la : List Int) (n : Nat) (v : Int) : (la.set n v).map (fun v => v == 3) = (la.map fun v => v == 3).set n (v == 3) := by
  rw [List.map_set]

theorem depths_both (hn : l.length ≤ 2932031007400) : ∀ (d : Nat) (i : Nat) (out : List Int) (la : List Int), i ≤ l.length → l.length - i = d → out.length ≤ i → la.length ≤ i →
    ∃ res, Ev (fun k => lines_Depths.l0 k out (la.map fun v => v == 3) l (l.length : Int) (i : Int)) res ∧ Ev (fun k => regletref03_Depths.l0 k l out la (i : Int)) res ∧ res.1.length ≤ l.length := by
  intro d
  induction d with
  | zero =>
    intro i out la h1 hd ho hla
    by_cases h : 0 < la.length
    · refine ⟨([], 81), Ev.done 1 fun k => ?_, Ev.done 1 fun k => ?_, by simp⟩
      · simp only [lines_Depths.l0, List.length_map]
        rw [if_neg (by omega), if_pos (by omega)]
      · simp only [regletref03_Depths.l0]
        rw [if_neg (by omega), if_pos (by omega)]
    · refine ⟨(out, 0), Ev.done 1 fun k => ?_, Ev.done 1 fun k => ?_, by simp; omega⟩
      · simp only [lines_Depths.l0, List.length_map]
        rw [if_neg (by omega), if_neg (by omega)]
      · simp only [regletref03_Depths.l0]
        rw [if_neg (by omega), if_neg (by omega)]
  | succ d ih =>
    intro i out la h1 hd ho hla
    have hi : i < l.length := by omega
    have hA := dp_any l out (la.map fun v => v == 3) i hi
    have hR := ref_round l out la i hi
    have hw := w64_succ i l.length hi (by omega)
    generalize nmB (rd_T49 l (i : Int)) = nm at hA hR
    by_cases c1 : nm.toList = wIf ∨ nm.toList = wIfdef ∨ nm.toList = wIfndef
    · obtain ⟨res, r1, r2, r3⟩ := ih (i + 1) (out ++ [(la.length : Int)]) (la ++ [1]) (by omega) (by omega) (by simp; omega) (by simp; omega)
      have ht : turnN nm.toList = 1 := by unfold turnN; rw [if_pos c1]
      refine ⟨res, Ev.steps 3 (fun k => ?_) r1, hR res ?_, r3⟩
      · rw [show k + 3 = (k + 2) + 1 from rfl, hA, show k + 2 = (k + 1) + 1 from rfl, dp_j1, decide_eq_true c1]
        simp only [lines_Depths.j2, if_true]
        rw [if_pos (by rw [List.length_map]; omega), if_pos (by omega), hw, map3_snoc, List.length_map]
      · rw [ht]
        refine Ev.steps 1 (fun k => ?_) r2
        unfold refB
        rw [if_neg (by omega)]
        simp only [regletref03_Depths.j1]
        rw [if_pos (by omega)]
        simp only [Option.bind_some]
        rw [if_pos trivial, if_pos (by omega), if_neg (by omega), hw]
    · have hj : ∀ k, lines_Depths.l0 (k + 3) out (la.map fun v => v == 3) l (l.length : Int) (i : Int) = lines_Depths.j3 k out (la.map fun v => v == 3) (la.length : Int) nm l (l.length : Int) (i : Int) (decide (nm.toList = wElif ∨ nm.toList = wElse ∨ nm.toList = wEndif)) := by
        intro k
        rw [show k + 3 = (k + 2) + 1 from rfl, hA, show k + 2 = (k + 1) + 1 from rfl, dp_j1, decide_eq_false c1, dp_j2, List.length_map]
      by_cases c2 : nm.toList = wElif ∨ nm.toList = wElse ∨ nm.toList = wEndif
      · rw [decide_eq_true c2] at hj
        have ht1 : turnN nm.toList > 1 := by
          unfold turnN; rw [if_neg c1]
          rcases c2 with c2 | c2 | c2 <;> rw [c2] <;> decide
        by_cases c3 : la.length = 0
        · refine ⟨([], 81), Ev.done 5 (fun k => ?_), hR _ (Ev.done 0 fun k => ?_), by simp⟩
          · rw [show k + 5 = (k + 2) + 3 from rfl, hj]
            simp only [lines_Depths.j3, if_true]
            rw [if_pos (by omega)]
            simp only [lines_Depths.j4, if_true]
          · unfold refB
            rw [if_pos ht1, if_pos (by omega)]
        · have hp := w64_pred la.length (by omega) (by omega)
          by_cases c4 : nm.toList = wEndif
          · have c4' : nm.toList = [101, 110, 100, 105, 102] := c4
            have ht : turnN nm.toList = 4 := by unfold turnN; rw [if_neg c1, c4]; decide
            obtain ⟨res, r1, r2, r3⟩ := ih (i + 1) (out ++ [((la.length - 1 : Nat) : Int)]) (la.take (la.length - 1)) (by omega) (by omega) (by simp; omega) (by simp; omega)
            refine ⟨res, Ev.steps 5 (fun k => ?_) r1, hR res ?_, r3⟩
            · rw [show k + 5 = (k + 2) + 3 from rfl, hj]
              simp only [lines_Depths.j3, if_true]
              rw [if_neg (by omega), if_pos c4']
              simp only [lines_Depths.j4]
              rw [if_neg (by decide), if_pos c4', hp, if_pos (by omega), if_pos (by rw [List.length_map]; omega), if_pos (by omega), hw, Int.toNat_natCast, List.map_take]
            · rw [ht]
              refine Ev.steps 1 (fun k => ?_) r2
              unfold refB
              rw [if_pos (by omega), if_neg (by omega), if_neg (by omega), hp, if_pos (by omega), if_pos (by omega)]
              simp only [regletref03_Depths.j1]
              rw [if_pos (by omega)]
              simp only [Option.bind_some]
              rw [if_neg (by omega), if_pos trivial, if_pos (by omega), if_pos (by rw [List.length_set]; omega), hw, Int.toNat_natCast, List.take_set_of_le (by omega)]
          · have c4' : ¬ nm.toList = [101, 110, 100, 105, 102] := c4
            have ht4 : turnN nm.toList < 4 ∧ turnN nm.toList ≠ 1 ∧ ((turnN nm.toList == 3) = (nm.toList == wElse)) := by
              unfold turnN; rw [if_neg c1]
              rcases c2 with c2 | c2 | c2
              · rw [c2]; decide
              · rw [c2]; decide
              · exact absurd c2 c4
            obtain ⟨ht4, ht5, ht6⟩ := ht4
            by_cases c5 : la.getD (la.length - 1) 0 = 3
            · refine ⟨([], 81), Ev.done 5 (fun k => ?_), hR _ (Ev.done 0 fun k => ?_), by simp⟩
              · rw [show k + 5 = (k + 2) + 3 from rfl, hj]
                simp only [lines_Depths.j3, if_true]
                rw [if_neg (by omega), if_neg c4', hp, if_pos (by omega), if_pos (by rw [List.length_map]; omega), rdB, map3_get _ _ (by omega), c5]
                simp [lines_Depths.j4]
              · unfold refB
                rw [if_pos ht1, if_neg (by omega), if_pos ht4, hp, if_pos (by omega), if_pos (by omega), rdI, if_pos c5]
            · obtain ⟨res, r1, r2, r3⟩ := ih (i + 1) (out ++ [((la.length - 1 : Nat) : Int)]) (la.set (la.length - 1) (turnN nm.toList)) (by omega) (by omega) (by simp; omega) (by simp; omega)
              refine ⟨res, Ev.steps 5 (fun k => ?_) r1, hR res ?_, r3⟩
              · rw [show k + 5 = (k + 2) + 3 from rfl, hj]
                simp only [lines_Depths.j3, if_true]
                rw [if_neg (by omega), if_neg c4', hp, if_pos (by omega), if_pos (by rw [List.length_map]; omega), rdB, map3_get _ _ (by omega), beq_eq_false_iff_ne.mpr c5]
                simp only [lines_Depths.j4]
                rw [if_neg (by decide), if_neg c4', hp, if_pos (by omega), if_pos (by rw [List.length_map]; omega), if_pos (by omega), hw, Int.toNat_natCast, map3_set, ht6]
                rfl
              · refine Ev.steps 1 (fun k => ?_) r2
                unfold refB
                rw [if_pos ht1, if_neg (by omega), if_pos ht4, hp, if_pos (by omega), if_pos (by omega), rdI, if_neg c5]
                simp only [regletref03_Depths.j1]
                rw [if_pos (by omega)]
                simp only [Option.bind_some]
                rw [if_neg ht5, if_neg (by omega), hw, Int.toNat_natCast]
      · rw [decide_eq_false c2] at hj
        have ht : turnN nm.toList = 0 := by
          unfold turnN; rw [if_neg c1]
          simp only [not_or] at c2
          rw [if_neg c2.1, if_neg c2.2.1, if_neg c2.2.2]
        obtain ⟨res, r1, r2, r3⟩ := ih (i + 1) (out ++ [(la.length : Int)]) la (by omega) (by omega) (by simp; omega) (by omega)
        refine ⟨res, Ev.steps 4 (fun k => ?_) r1, hR res ?_, r3⟩
        · rw [show k + 4 = (k + 1) + 3 from rfl, hj]
          simp only [lines_Depths.j3]
          rw [if_neg (by decide), if_pos (by omega), hw]
        · rw [ht]
          refine Ev.steps 1 (fun k => ?_) r2
          unfold refB
          rw [if_neg (by omega)]
          simp only [regletref03_Depths.j1]
          rw [if_pos (by omega)]
          simp only [Option.bind_some]
          rw [if_neg (by omega), if_neg (by omega), hw]
end
theorem linesDepths_pure (l : List S49) (h : l.length * 48 ≤ 140737488351232) (hg : ∀ r ∈ l, Good49 r) : ∃ k, regletlaw03_LinesDepths.f k l = some true := by
  have hn : l.length ≤ 2932031007400 := by omega
  have hg1 : ∀ r ∈ l, r.f2.length ≤ 2932031007400 := fun r hr => by have := (hg r hr).2.1; omega
  refine Ev.rounds ?_
  unfold regletlaw03_LinesDepths.f
  refine Ev.bind (twin_same l hn hg1) ?_
  obtain ⟨res, r1, r2, r3⟩ := depths_both l hn l.length 0 [] [] (by omega) (by omega) (by simp) (by simp)
  refine Ev.bind (a := res) (Ev.congr (fun k => rfl) r1) ?_
  refine Ev.bind (a := res) (Ev.congr (fun k => rfl) r2) ?_
  refine Ev.bind (ints_same _ (by omega)) ?_
  simp only [if_true]
  exact Ev.bind (same49 l (by omega) (fun r hr => by have := hg1 r hr; omega)) (Ev.now _)
end Go.Proofs.Ytonfmnohmigjpaa.P
