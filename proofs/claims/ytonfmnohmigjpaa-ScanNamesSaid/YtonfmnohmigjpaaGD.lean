-- Written by wip/pr.py (the kit's printer, driven for functions that are proved by hand beside it), and put together by wip/mg.py.
import Derived.Test.YtonfmnohmigjpaaSc1
/- The contract of scan.comment: how many bytes a comment at the beginning has; -1: it does not end. -/
namespace Go.Proofs.Ytonfmnohmigjpaa.P
open Go.RowKit Go.Shelf Go.Proofs.YtonfmnohmigjpaaW.PrintWords Go.Proofs.YtonfmnohmigjpaaW.PrintLast

/-- How many bytes stand ahead of the line's end. -/
def lineE : List UInt8 → Nat
  | [] => 0
  | c :: r => if c = 10 then 0 else lineE r + 1
/-- Where a comment ends that has begun: behind its end. -/
def closeC : List UInt8 → Option Nat
  | [] => none
  | [_] => none
  | a :: b :: r => if a = 42 ∧ b = 47 then some 2 else (closeC (b :: r)).map (· + 1)
/-- How many bytes a comment at the beginning has; none: it does not end; 0: there is none. -/
def comF (l : List UInt8) : Option Nat :=
  if begU [47, 47] l then some (lineE l) else if begU [47, 42] l then (closeC (l.drop 2)).map (· + 2) else some 0
def comI : Option Nat → Int
  | none => -1
  | some n => (n : Int)
def HasMax (w : World) : Prop := ∃ m, w.cell? ⟨0, 0, none⟩ = some (.int .i64 m)
theorem lineE_ix (l : List UInt8) : (Lib.indexByte l 10 < 0 → (lineE l : Int) = l.length) ∧ (0 ≤ Lib.indexByte l 10 → (lineE l : Int) = Lib.indexByte l 10) := by
  induction l with
  | nil => exact ⟨fun _ => rfl, fun h => absurd h (by decide)⟩
  | cons c r ih =>
    have hg := Lib.indexByte_ge r 10
    unfold Lib.indexByte lineE
    by_cases c1 : c = 10
    · subst c1; simp
    · rw [if_neg c1, if_neg (by simpa using c1)]
      by_cases c2 : Lib.indexByte r 10 = -1
      · rw [if_pos (by simpa using c2)]
        have := ih.1 (by omega)
        exact ⟨fun _ => by rw [List.length_cons]; omega, fun h => absurd h (by decide)⟩
      · rw [if_neg (by simpa using c2)]
        have := ih.2 (by omega)
        exact ⟨fun h => by omega, fun _ => by omega⟩
theorem close_ix (l : List UInt8) : comI ((closeC l).map (· + 2)) = if Lib.index l [42, 47] < 0 then -1 else Lib.index l [42, 47] + 4 := by
  have key : ∀ l : List UInt8, (Lib.index l [42, 47] = -1 ∧ closeC l = none) ∨ (0 ≤ Lib.index l [42, 47] ∧ ∃ n, closeC l = some n ∧ (n : Int) = Lib.index l [42, 47] + 2) := by
    intro l
    induction l with
    | nil => exact .inl ⟨by decide, rfl⟩
    | cons a r ih =>
      cases r with
      | nil => exact .inl ⟨by simp [Lib.index, List.isPrefixOf], rfl⟩
      | cons b r =>
        unfold Lib.index closeC
        by_cases c : a = 42 ∧ b = 47
        · obtain ⟨rfl, rfl⟩ := c
          exact .inr ⟨by simp [List.isPrefixOf], 2, by simp, by simp [List.isPrefixOf]⟩
        · have hp : List.isPrefixOf [42, 47] (a :: b :: r) = false := by
            rw [Bool.eq_false_iff]
            intro e
            simp only [List.isPrefixOf, Bool.and_true, Bool.and_eq_true, beq_iff_eq] at e
            exact c ⟨e.1.symm, e.2.symm⟩
          rw [hp, if_neg (by decide), if_neg c]
          rcases ih with ⟨h1, h2⟩ | ⟨h1, n, h2, h3⟩
          · rw [if_pos (by simpa using h1), h2]; exact .inl ⟨rfl, rfl⟩
          · rw [if_neg (by simp; omega), h2]; exact .inr ⟨by omega, n + 1, rfl, by omega⟩
  rcases key l with ⟨h1, h2⟩ | ⟨h1, n, h2, h3⟩
  · rw [h1, h2]; rfl
  · rw [h2, if_neg (by omega)]
    show ((n + 2 : Nat) : Int) = _
    omega
theorem index_le' (s sub : List UInt8) : Lib.index s sub ≤ s.length := by
  induction s with
  | nil => unfold Lib.index; split <;> simp
  | cons b l ih =>
    unfold Lib.index
    split
    · simp; omega
    · split
      · simp; omega
      · simp; omega
theorem has_drewN {w : World} (h : HasMax w) (nd : Nat) : HasMax (w.drewN nd) := by obtain ⟨m, h⟩ := h; exact ⟨m, h⟩
set_option maxHeartbeats 1000000 in
set_option maxRecDepth 100000 in
theorem comment_calls (a0 : ByteArray) (hs : a0.size ≤ 1000000) (w : World) (hm : HasMax w) :
    Calls Try.prog 125 #[.string a0] w fun e w' => e = .returned (.int .i64 (comI (comF (L a0)))) ∧ ∃ nd, w' = w.drewN nd := by
  have HM := Aside0.mk hm
  clear hm
  have H1 := Aside0.mk (prefix_f a0 (⟨#[47, 47]⟩ : ByteArray))
  have H2 := Aside0.mk (prefix_f a0 (⟨#[47, 42]⟩ : ByteArray))
  have E1 : L (⟨#[47, 47]⟩ : ByteArray) = [47, 47] := rfl
  have E2 : L (⟨#[47, 42]⟩ : ByteArray) = [47, 42] := rfl
  rw [E1] at H1
  rw [E2] at H2
  clear E1 E2
  cases c1 : begU [47, 47] (L a0) with
  | true =>
    rw [c1] at H1
    have hI := lineE_ix (L a0)
    have hc : comF (L a0) = some (lineE (L a0)) := by unfold comF; rw [c1]; rfl
    have hI1 := Aside0.mk hI.1
    have hI2 := Aside0.mk hI.2
    rw [L_length] at hI1
    clear hI
    go_enter Try.func125, Try.ntmps125
    go_wp2_with (first
      | (go_at_call 123; refine (strings_HasPrefix.calls a0 _ _ _ H1.out).mono ?_; rintro e w1 ⟨rfl, ⟨nd1, rfl⟩⟩)
      | (go_at_call 79; refine (Try.strings_IndexByte a0 10 _).mono ?_; rintro e w2 ⟨rfl, rfl⟩))
    · rename_i h
      go_ret
      rw [hc]
      refine ⟨?_, _, rfl⟩
      show Ending.returned (Value.int IntKind.i64 (Lib.indexByte (L a0) 10)) = _
      rw [← hI2.out h]; rfl
    · rename_i h
      go_ret
      rw [hc]
      refine ⟨?_, _, rfl⟩
      show Ending.returned (Value.int IntKind.i64 (a0.size : Int)) = Ending.returned (Value.int IntKind.i64 ((lineE (L a0) : Nat) : Int))
      rw [hI1.out h]
  | false =>
    rw [c1] at H1
    cases c2 : begU [47, 42] (L a0) with
    | true =>
      rw [c2] at H2
      have h2 : 2 ≤ a0.size := by
        unfold begU at c2
        have := congrArg List.length (of_decide_eq_true c2)
        rw [List.length_take, L_length] at this
        simp at this; omega
      have hc : comF (L a0) = (closeC ((L a0).drop 2)).map (· + 2) := by unfold comF; rw [c1, c2]; rfl
      have hx := close_ix ((L a0).drop 2)
      have hE : (a0.extract 2 a0.size).data.toList = (L a0).drop 2 := by
        show L (a0.extract 2 a0.size) = _
        rw [L_extract, List.take_of_length_le (by rw [List.length_drop, L_length]; omega)]
      have hz := size_extract a0 2 h2
      have hT : List.take (a0.size - 2) (List.drop 2 a0.data.toList) = (L a0).drop 2 := List.take_of_length_le (by rw [List.length_drop]; exact Nat.le_of_eq (by rw [← L_length]; rfl))
      have hle : Lib.index ((L a0).drop 2) [42, 47] ≤ a0.size := by
        have := index_le' ((L a0).drop 2) [42, 47]
        rw [List.length_drop, L_length] at this; omega
      obtain ⟨m, hm⟩ := HM.out
      go_enter Try.func125, Try.ntmps125
      go_wp2_with (first
        | (go_at_call 123; first | (refine (strings_HasPrefix.calls a0 (⟨#[47, 47]⟩ : ByteArray) _ _ H1.out).mono ?_; rintro e w1 ⟨rfl, ⟨nd1, rfl⟩⟩) | (refine (strings_HasPrefix.calls a0 (⟨#[47, 42]⟩ : ByteArray) _ _ H2.out).mono ?_; rintro e w1 ⟨rfl, ⟨nd2, rfl⟩⟩))
        | (go_at_call 134; refine (Try.strings_Index (a0.extract 2 a0.size) (⟨#[42, 47]⟩ : ByteArray) m _ (by omega) (by exact hm)).mono ?_; rintro e w2 ⟨rfl, rfl⟩))
      · rename_i h
        have h' : Lib.index ((L a0).drop 2) [42, 47] < 0 := h
        go_ret
        rw [hc, hx, if_pos h']
        exact ⟨rfl, _, rfl⟩
      · rename_i h
        have h' : 0 ≤ Lib.index ((L a0).drop 2) [42, 47] := h
        have hw : wrap64 (Lib.index ((L a0).drop 2) [42, 47] + 4) = Lib.index ((L a0).drop 2) [42, 47] + 4 := by unfold wrap64; omega
        go_ret
        rw [hc, hx, if_neg (by omega), ← hw]
        exact ⟨rfl, _, rfl⟩
    | false =>
      rw [c2] at H2
      have hc : comF (L a0) = some 0 := by unfold comF; rw [c1, c2]; rfl
      go_enter Try.func125, Try.ntmps125
      go_wp2_with (first
        | (go_at_call 123; first | (refine (strings_HasPrefix.calls a0 (⟨#[47, 47]⟩ : ByteArray) _ _ H1.out).mono ?_; rintro e w1 ⟨rfl, ⟨nd1, rfl⟩⟩) | (refine (strings_HasPrefix.calls a0 (⟨#[47, 42]⟩ : ByteArray) _ _ H2.out).mono ?_; rintro e w1 ⟨rfl, ⟨nd2, rfl⟩⟩)))
      go_ret
      rw [hc]
      exact ⟨rfl, _, rfl⟩
end Go.Proofs.Ytonfmnohmigjpaa.P
/- The contract of scan.punct: how many bytes a punctuator at the beginning has. -/
namespace Go.Proofs.Ytonfmnohmigjpaa.P
open Go.RowKit Go.Shelf Go.Proofs.YtonfmnohmigjpaaW.PrintWords Go.Proofs.YtonfmnohmigjpaaW.PrintLast

def isPct (t : List UInt8) : Bool :=
  t == [37, 58, 37, 58] || (t == [46, 46, 46] || (t == [60, 60, 61] || (t == [62, 62, 61] || (t == [45, 62] || (t == [43, 43] || (t == [45, 45] || (t == [60, 60] || (t == [62, 62] || (t == [60, 61] || (t == [62, 61] || (t == [61, 61] || (t == [33, 61] || (t == [38, 38] || (t == [124, 124] || (t == [42, 61] || (t == [47, 61] || (t == [37, 61] || (t == [43, 61] || (t == [45, 61] || (t == [38, 61] || (t == [94, 61] || (t == [124, 61] || (t == [35, 35] || (t == [60, 58] || (t == [58, 62] || (t == [60, 37] || (t == [37, 62] || (t == [37, 58] || (t == [91] || (t == [93] || (t == [40] || (t == [41] || (t == [123] || (t == [125] || (t == [46] || (t == [38] || (t == [42] || (t == [43] || (t == [45] || (t == [126] || (t == [33] || (t == [47] || (t == [37] || (t == [60] || (t == [62] || (t == [94] || (t == [124] || (t == [63] || (t == [58] || (t == [59] || (t == [61] || (t == [44] || (t == [35])))))))))))))))))))))))))))))))))))))))))))))))))))))
def pctN (l : List UInt8) (n : Nat) : Bool := decide (n ≤ l.length) && isPct (l.take n)
/-- How many bytes a punctuator at the beginning has. -/
def punctF (l : List UInt8) : Nat := if pctN l 4 then 4 else if pctN l 3 then 3 else if pctN l 2 then 2 else if pctN l 1 then 1 else 0
theorem punct_hit (l : List UInt8) (m : Nat) (h0 : 0 < m) (h4 : m ≤ 4) (h : pctN l m = true) (hx : ∀ j, m < j → j ≤ 4 → pctN l j = false) : punctF l = m := by
  unfold punctF
  rcases (show m = 4 ∨ m = 3 ∨ m = 2 ∨ m = 1 by omega) with rfl | rfl | rfl | rfl
  · rw [if_pos h]
  · rw [hx 4 (by omega) (by omega), if_neg (by decide), if_pos h]
  · rw [hx 4 (by omega) (by omega), hx 3 (by omega) (by omega), if_neg (by decide), if_neg (by decide), if_pos h]
  · rw [hx 4 (by omega) (by omega), hx 3 (by omega) (by omega), hx 2 (by omega) (by omega), if_neg (by decide), if_neg (by decide), if_neg (by decide), if_pos h]
theorem punct_none (l : List UInt8) (hx : ∀ j, 0 < j → j ≤ 4 → pctN l j = false) : punctF l = 0 := by
  unfold punctF
  rw [hx 4 (by omega) (by omega), hx 3 (by omega) (by omega), hx 2 (by omega) (by omega), hx 1 (by omega) (by omega)]; rfl
theorem pct_of (s : ByteArray) (m : Nat) (h : m ≤ s.size) : pctN (L s) m = isPct (s.extract 0 m).toList := by
  unfold pctN
  rw [toList_L, L_extract, List.drop_zero, Nat.sub_zero, L_length, decide_eq_true h, Bool.true_and]

set_option maxHeartbeats 4000000 in
set_option maxRecDepth 100000 in
theorem punct_calls (a0 : ByteArray) (w : World) :
    Calls Try.prog 129 #[.string a0] w fun e w' => e = .returned (.int .i64 (punctF (L a0) : Nat)) ∧ ∃ nd, w' = w.drewN nd := by
  go_enter Try.func129, Try.ntmps129
  go_wp2
  go_loopw [3] (fun v3 wr => ∃ m : Nat, v3 = .int .i64 m ∧ m ≤ 4 ∧ m ≤ a0.size ∧ Aside0 (∀ j, m < j → j ≤ 4 → pctN (L a0) j = false) ∧ ∃ nd, wr = w.drewN nd) (fun v3 _ => (intOf v3).toNat)
  case atStart =>
    have e : (min 4 (a0.size : Int)) = ((min 4 a0.size : Nat) : Int) := by omega
    refine ⟨min 4 a0.size, by rw [← e], by omega, by omega, ⟨fun j h1 h2 => ?_⟩, 0, rfl⟩
    unfold pctN
    rw [decide_eq_false (by rw [L_length]; omega), Bool.false_and]
  case round =>
    obtain ⟨m, rfl, h1, h2, HX, nd, rfl⟩ := hrel
    have HP := Aside0.mk (pct_of a0 m h2)
    by_cases h0 : 0 < m
    · go_wp2
      all_goals first
        | (exfalso; rename_i p q; rw [p] at q; exact absurd q (by decide))
        | (rename_i p q
           have hh : pctN (L a0) m = true := by rw [HP.out]; unfold isPct; simp only [q, Bool.or_true, Bool.true_or]
           rw [punct_hit (L a0) m h0 h1 hh HX.out]
           go_ret
           exact ⟨rfl, nd, rfl⟩)
        | (have hh : pctN (L a0) m = false := by
             rw [HP.out]; unfold isPct
             simp only [*, Bool.or_false]
           refine ⟨⟨m - 1, by go_num, by omega, by omega, ⟨fun j h3 h4 => ?_⟩, nd, rfl⟩, by simp [intOf]; omega⟩
           by_cases e : j = m
           · rw [e]; exact hh
           · exact HX.out j (by omega) h4)
    · go_wp2
      rw [punct_none (L a0) (fun j h3 h4 => HX.out j (by omega) h4)]
      go_ret
      exact ⟨rfl, nd, rfl⟩
end Go.Proofs.Ytonfmnohmigjpaa.P
/- The contract of scan.first: the first token of what is left: its kind and size, or what it is refused for. -/
namespace Go.Proofs.Ytonfmnohmigjpaa.P
open Go.RowKit Go.Shelf Go.Proofs.YtonfmnohmigjpaaW.PrintWords Go.Proofs.YtonfmnohmigjpaaW.PrintLast

def firstG (names : Bool) (hd cm c0 q1 q2 wd nm pc : Int) : Int × Int × Int :=
  if names = true ∧ 0 < hd then (7, hd, 0) else if cm < 0 then (0, 0, 20) else if 0 < cm then (8, cm, 0) else if c0 = 10 then (9, 1, 0)
  else if 0 < q2 then (q1, q2, 0) else if 0 < wd then (1, wd, 0) else if 0 < nm then (2, nm, 0) else if 0 < pc then (5, pc, 0)
  else if c0 = 39 ∨ c0 = 34 then (0, 0, 21) else (6, 1, 0)
/-- The first token of what is left: its kind and size, or what it is refused for. -/
def firstI (l : List UInt8) (names : Bool) : Int × Int × Int :=
  firstG names (hdrF l : Nat) (comI (comF l)) ((l.headD 0).toNat : Int) ((quoF l).1 : Nat) ((quoF l).2 : Nat) (wordF l : Nat) (numF l : Nat) (punctF l : Nat)
def res3 (p : Int × Int × Int) : Ending := .returned (.tuple #[.int .i64 p.1, .int .i64 p.2.1, .int .i64 p.2.2])

set_option maxHeartbeats 4000000 in
set_option maxRecDepth 100000 in
theorem first_calls (s : ByteArray) (names : Bool) (hs : s.size ≤ 1000000) (h0 : 0 < s.size) (w : World) (hm : HasMax w) :
    Calls Try.prog 107 #[.string s, .bool names] w fun e w' => e = res3 (firstI (L s) names) ∧ Below w.heap.size w w' := by
  have HB := Aside0.mk (Below.refl w.heap.size w)
  have HM := Aside0.mk hm
  clear hm
  have hz : s.size ≤ 140737488351232 := by omega
  obtain ⟨k1, HD⟩ := hdr_f s hz
  have HD := Aside0.mk (HD k1 (Nat.le_refl _))
  obtain ⟨k2, HQ⟩ := quo_f s hz
  have HQ := Aside0.mk (HQ k2 (Nat.le_refl _))
  obtain ⟨k3, HW⟩ := word_f s hz
  have HW := Aside0.mk (HW k3 (Nat.le_refl _))
  obtain ⟨k4, HN⟩ := num_f s hz
  have HN := Aside0.mk (HN k4 (Nat.le_refl _))
  have HC := Aside0.mk (fun w h => comment_calls s hs w h)
  have HP := Aside0.mk (fun w => punct_calls s w)
  have h00 : (L s).headD 0 = s[0]'h0 := by rw [← List.drop_zero (l := L s), drop_at s 0 h0, get_at s 0 h0]; rfl
  unfold firstI
  rw [h00]
  have HQ' : Aside0 (scan_quoted.f k2 s = some (((quoF (L s)).1 : Int), ((quoF (L s)).2 : Int))) := HQ
  clear HQ h00 hz
  generalize (hdrF (L s) : Int) = hd at *
  generalize comI (comF (L s)) = cm at *
  generalize ((quoF (L s)).1 : Int) = q1 at *
  generalize ((quoF (L s)).2 : Int) = q2 at *
  generalize (wordF (L s) : Int) = wd at *
  generalize (numF (L s) : Int) = nm at *
  generalize (punctF (L s) : Int) = pc at *
  clear HB
  cases names
  all_goals
    go_enter Try.func107, Try.ntmps107
    go_wp2_with (first
      | (go_at_call 124; refine (scan_header.calls k1 s _ _ HD.out).mono ?_; rintro e w1 ⟨rfl, ⟨nd1, rfl⟩⟩)
      | (go_at_call 125; refine (HC.out _ (has_drewN HM.out _)).mono ?_; rintro e w2 ⟨rfl, ⟨nd2, rfl⟩⟩)
      | (go_at_call 126; refine (scan_quoted.calls k2 s _ _ _ HQ'.out).mono ?_; rintro e w3 ⟨rfl, hb3⟩)
      | (go_at_call 127; refine (scan_word.calls k3 s _ _ HW.out).mono ?_; rintro e w4 ⟨rfl, ⟨nd4, rfl⟩⟩)
      | (go_at_call 128; refine (scan_number.calls k4 s _ _ HN.out).mono ?_; rintro e w5 ⟨rfl, ⟨nd5, rfl⟩⟩)
      | (go_at_call 129; refine (HP.out _).mono ?_; rintro e w6 ⟨rfl, ⟨nd6, rfl⟩⟩))
    all_goals
      go_ret3
      refine ⟨?_, ?_⟩
      · (try simp only [beq_iff_eq, beq_eq_false_iff_ne, ne_eq] at *)
        unfold firstG
        simp only [Bool.false_eq_true, false_and, true_and, if_false]
        repeat' split
        all_goals first
          | rfl
          | (exfalso; omega)
      · first
        | exact pw_below_drewN (Below.refl _ _) _
        | exact below_step (pw_below_drewN (Below.refl _ _) _) hb3
        | exact pw_below_drewN (below_step (pw_below_drewN (Below.refl _ _) _) hb3) _
end Go.Proofs.Ytonfmnohmigjpaa.P
