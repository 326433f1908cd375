/- The contract of phys.Spell: it answers how a text is spelt, or what stands against it. -/
import Derived.Test.YtonfmnohmigjpaaPhs
import Derived.Test.YtonfmnohmigjpaaBld
import Derived.Deep.DeepMust
namespace Go.Proofs.Ytonfmnohmigjpaa.P
open Go.RowKit Go.Proofs.YtonfmnohmigjpaaW.PrintWords Go.Proofs.YtonfmnohmigjpaaW.PrintLast Go.Proofs.YtonfmnohmigjpaaW.PrintMore

/-- What Spell answers. -/
def spellR (l : List UInt8) : List UInt8 × Int :=
  if l.length > 65536 then ([], 3) else if l ≠ [] ∧ l.getD (l.length - 1) 0 ≠ 10 then ([], 10) else if (spellF l).length > 65536 then ([], 3) else (spellF l, 0)
def phys_Spell.f (a0 : ByteArray) : Option (ByteArray × Int) := some (⟨(spellR (L a0)).1.toArray⟩, (spellR (L a0)).2)

theorem spell_step (c : UInt8) (r xs tot : List UInt8) (h : xs ++ spellF (c :: r) = tot) : (xs ++ [c]) ++ (if parts (c :: r) then [92, 10] else []) ++ spellF r = tot := by
  rw [← h]
  show _ = xs ++ (if parts (c :: r) then c :: 92 :: 10 :: spellF r else c :: spellF r)
  split <;> simp
theorem cells_snoc (l : List UInt8) (c : UInt8) : Lib.byteCells l ++ [.int .u8 (c.toNat : Int)] = Lib.byteCells (l ++ [c]) := by simp [Lib.byteCells]
theorem cells_two (l : List UInt8) : Lib.byteCells l ++ Lib.strCells ⟨#[92, 10]⟩ = Lib.byteCells (l ++ [92, 10]) := by simp [Lib.byteCells, Lib.strCells]

theorem get_at (s : ByteArray) (i : Nat) (h : i < s.size) : (s[i]'h) = at_ s i := by
  unfold at_ L
  rw [List.getD_eq_getElem?_getD, List.getElem?_eq_getElem (show i < s.data.toList.length by rw [Array.length_toList]; exact h)]
  rfl
theorem empty_of (s : ByteArray) (h : s.size = 0) : s.toList.isEmpty = true := by
  rw [toList_L, List.eq_nil_of_length_eq_zero (by rw [L_length]; exact h : (L s).length = 0)]
  rfl
theorem nonempty_of (s : ByteArray) (h : s.size ≠ 0) : s.toList.isEmpty = false := by
  rw [toList_L]
  have := L_length s
  cases hl : L s with
  | nil => rw [hl] at this; simp at this; omega
  | cons c r => rfl
theorem bld_size {B : Nat} {w w' : World} (hb : Below B w w') (h : B ≤ w.heap.size) : B ≤ w'.heap.size := Nat.le_trans h hb.size

theorem bat_drew {B b : Nat} {bs : List Value} {w : World} (h : BAt B b bs w) (n : Nat) : BAt B b bs (w.drewN n) := h
set_option maxHeartbeats 1000000 in
set_option maxRecDepth 100000 in
theorem spell_main (a0 : ByteArray) (hs : a0.size ≤ 65536) (hpre : a0.size = 0 ∨ ∃ hi : a0.size - 1 < a0.size, (a0[a0.size - 1]'hi) = 10) (r1 : List UInt8) (r2 : Int)
    (HR : Aside0 ((if (spellF (L a0)).length > 65536 then ([], 3) else (spellF (L a0), 0)) = (r1, r2))) (w : World) :
    Calls Try.prog 32 #[.string a0] w fun e w' => e = .returned (.tuple #[.string ⟨r1.toArray⟩, .int .i64 r2]) ∧ Below w.heap.size w w' := by
  have hsl := spellF_length (L a0)
  rw [L_length] at hsl
  have HSL := Aside0.mk hsl
  clear hsl
  have h8 : decide (65536 < (a0.size : Int)) = false := decide_eq_false (by omega)
  have HS := Aside0.mk hs
  rcases hpre with hz | ⟨hi, h10⟩
  · have h4 := empty_of a0 hz
    have HZ := Aside0.mk hz
    clear hz
    go_enter Try.func32, Try.ntmps32
    go_wp2
    go_loopw [21] (fun v21 w' => ∃ (i : Nat) (xs : List UInt8), v21 = .int .i64 i ∧ i ≤ a0.size ∧ xs.length ≤ 3 * i ∧ Aside0 (xs ++ spellF ((L a0).drop i) = spellF (L a0)) ∧ Aside0 (Bld w.heap.size w.heap.size (Lib.byteCells xs) w') ∧ Aside0 (Below w.heap.size w w')) (fun v21 _ => a0.size - (intOf v21).toNat)
    case atStart => exact ⟨0, [], rfl, Nat.zero_le _, Nat.le_refl _, ⟨by simp⟩, ⟨Lib.fresh_isBuilder 102 5 w⟩, ⟨below_alloc (Below.refl _ _) _⟩⟩
    case round =>
      obtain ⟨i, xs, rfl, hi2, hx, HX, HO, HB⟩ := hrel
      by_cases hlt : i < a0.size
      · have HG := Aside0.mk (get_at a0 i hlt)
        have HP := Aside0.mk (parted_f a0 i hlt (by omega))
        have HD := Aside0.mk (drop_at a0 i hlt)
        go_wp2_with fail
        refine (bld_byte w.heap.size w.heap.size (Lib.byteCells xs) _ _ HO.out (by rw [Lib.byteCells_length]; omega) HB.out.size).mono ?_
        rintro e w1 ⟨rfl, hb1, hw1⟩
        have HO1 := Aside0.mk hb1
        have HB1 := Aside0.mk (HB.out.trans hw1)
        clear hb1 hw1
        go_wp2_with fail
        refine (phys_parted.calls a0 (i : Int) _ _ HP.out).mono ?_
        rintro e w2 ⟨rfl, ⟨nd, rfl⟩⟩
        have HQ : ∀ q, parts ((L a0).drop i) = q → Aside0 ((xs ++ [at_ a0 i]) ++ (if q then [92, 10] else []) ++ spellF ((L a0).drop (i + 1)) = spellF (L a0)) := by
          intro q hq
          constructor
          subst hq
          have := spell_step (at_ a0 i) ((L a0).drop (i + 1)) xs (spellF (L a0)) (by rw [← HD.out]; exact HX.out)
          rwa [← HD.out] at this
        cases hq : parts ((L a0).drop i)
        · have HQ1 := HQ _ hq
          clear HQ hq
          go_wp2
          go_roundw
          case rel => exact ⟨i + 1, xs ++ [at_ a0 i], by go_num, by omega, by rw [List.length_append, List.length_singleton]; omega, ⟨by simpa using HQ1.out⟩, ⟨Or.inr (by have := HO1.out; rw [HG.out, cells_snoc] at this; exact bat_drew this nd)⟩, ⟨pw_below_drewN HB1.out nd⟩⟩
          case measure => simp [intOf]; omega
        · have HQ1 := HQ _ hq
          clear HQ hq
          go_wp2_with fail
          refine (bld_string w.heap.size w.heap.size _ _ _ (Or.inr (bat_drew HO1.out nd)) (by rw [List.length_append, Lib.byteCells_length]; show xs.length + 1 + 2 ≤ _; omega) (pw_below_drewN HB1.out nd).size).mono ?_
          rintro e w3 ⟨rfl, hb3, hw3⟩
          have HO3 := Aside0.mk hb3
          have HB3 := Aside0.mk ((pw_below_drewN HB1.out nd).trans hw3)
          clear hb3 hw3
          go_wp2
          go_roundw
          case rel => exact ⟨i + 1, xs ++ [at_ a0 i] ++ [92, 10], by go_num, by omega, by simp only [List.length_append, List.length_cons, List.length_nil]; omega, ⟨by simpa using HQ1.out⟩, ⟨Or.inr (by have := HO3.out; rw [HG.out, cells_snoc, cells_two] at this; exact this)⟩, HB3⟩
          case measure => simp [intOf]; omega
      · have hie : i = a0.size := by omega
        subst hie
        have HE : Aside0 (xs = spellF (L a0)) := ⟨by
          have := HX.out
          rwa [List.drop_eq_nil_of_le (by rw [L_length]; omega), spellF, List.append_nil] at this⟩
        go_wp2_with fail
        refine (Try.Builder_Len _ _ _ _ HO.out).mono ?_
        rintro e w1 ⟨rfl, rfl⟩
        rw [Lib.byteCells_length]
        by_cases hb : xs.length > 65536
        · have hbd : decide ((65536 : Int) < (xs.length : Int)) = true := decide_eq_true (by omega)
          have HV : Aside0 (([] : List UInt8) = r1 ∧ (3 : Int) = r2) := ⟨by
            have := HR.out
            rw [← HE.out, if_pos hb] at this
            exact ⟨congrArg Prod.fst this, congrArg Prod.snd this⟩⟩
          clear hb
          go_wp2
          go_ret2
          obtain ⟨rfl, rfl⟩ := HV.out
          exact ⟨rfl, HB.out⟩
        · have hbd : decide ((65536 : Int) < (xs.length : Int)) = false := decide_eq_false (by omega)
          have HV : Aside0 (xs = r1 ∧ (0 : Int) = r2) := ⟨by
            have := HR.out
            rw [← HE.out, if_neg hb] at this
            exact ⟨congrArg Prod.fst this, congrArg Prod.snd this⟩⟩
          clear hb
          go_wp2_with fail
          refine (Try.Builder_String_any _ _ _ _ HO.out HB.out.size).mono ?_
          rintro e w2 ⟨rfl, hw2⟩
          have HB2 := Aside0.mk (HB.out.trans hw2)
          clear hw2
          go_wp2
          go_ret2
          obtain ⟨rfl, rfl⟩ := HV.out
          exact ⟨rfl, HB2.out⟩
  · have h4 := nonempty_of a0 (by omega)
    have h11 : (((a0[a0.size - 1]'hi).toNat : Int) != 10) = false := by
      rw [h10]; rfl
    clear h10
    go_enter Try.func32, Try.ntmps32
    go_wp2
    go_loopw [21] (fun v21 w' => ∃ (i : Nat) (xs : List UInt8), v21 = .int .i64 i ∧ i ≤ a0.size ∧ xs.length ≤ 3 * i ∧ Aside0 (xs ++ spellF ((L a0).drop i) = spellF (L a0)) ∧ Aside0 (Bld w.heap.size w.heap.size (Lib.byteCells xs) w') ∧ Aside0 (Below w.heap.size w w')) (fun v21 _ => a0.size - (intOf v21).toNat)
    case atStart => exact ⟨0, [], rfl, Nat.zero_le _, Nat.le_refl _, ⟨by simp⟩, ⟨Lib.fresh_isBuilder 102 5 w⟩, ⟨below_alloc (Below.refl _ _) _⟩⟩
    case round =>
      obtain ⟨i, xs, rfl, hi2, hx, HX, HO, HB⟩ := hrel
      by_cases hlt : i < a0.size
      · have HG := Aside0.mk (get_at a0 i hlt)
        have HP := Aside0.mk (parted_f a0 i hlt (by omega))
        have HD := Aside0.mk (drop_at a0 i hlt)
        go_wp2_with fail
        refine (bld_byte w.heap.size w.heap.size (Lib.byteCells xs) _ _ HO.out (by rw [Lib.byteCells_length]; omega) HB.out.size).mono ?_
        rintro e w1 ⟨rfl, hb1, hw1⟩
        have HO1 := Aside0.mk hb1
        have HB1 := Aside0.mk (HB.out.trans hw1)
        clear hb1 hw1
        go_wp2_with fail
        refine (phys_parted.calls a0 (i : Int) _ _ HP.out).mono ?_
        rintro e w2 ⟨rfl, ⟨nd, rfl⟩⟩
        have HQ : ∀ q, parts ((L a0).drop i) = q → Aside0 ((xs ++ [at_ a0 i]) ++ (if q then [92, 10] else []) ++ spellF ((L a0).drop (i + 1)) = spellF (L a0)) := by
          intro q hq
          constructor
          subst hq
          have := spell_step (at_ a0 i) ((L a0).drop (i + 1)) xs (spellF (L a0)) (by rw [← HD.out]; exact HX.out)
          rwa [← HD.out] at this
        cases hq : parts ((L a0).drop i)
        · have HQ1 := HQ _ hq
          clear HQ hq
          go_wp2
          go_roundw
          case rel => exact ⟨i + 1, xs ++ [at_ a0 i], by go_num, by omega, by rw [List.length_append, List.length_singleton]; omega, ⟨by simpa using HQ1.out⟩, ⟨Or.inr (by have := HO1.out; rw [HG.out, cells_snoc] at this; exact bat_drew this nd)⟩, ⟨pw_below_drewN HB1.out nd⟩⟩
          case measure => simp [intOf]; omega
        · have HQ1 := HQ _ hq
          clear HQ hq
          go_wp2_with fail
          refine (bld_string w.heap.size w.heap.size _ _ _ (Or.inr (bat_drew HO1.out nd)) (by rw [List.length_append, Lib.byteCells_length]; show xs.length + 1 + 2 ≤ _; omega) (pw_below_drewN HB1.out nd).size).mono ?_
          rintro e w3 ⟨rfl, hb3, hw3⟩
          have HO3 := Aside0.mk hb3
          have HB3 := Aside0.mk ((pw_below_drewN HB1.out nd).trans hw3)
          clear hb3 hw3
          go_wp2
          go_roundw
          case rel => exact ⟨i + 1, xs ++ [at_ a0 i] ++ [92, 10], by go_num, by omega, by simp only [List.length_append, List.length_cons, List.length_nil]; omega, ⟨by simpa using HQ1.out⟩, ⟨Or.inr (by have := HO3.out; rw [HG.out, cells_snoc, cells_two] at this; exact this)⟩, HB3⟩
          case measure => simp [intOf]; omega
      · have hie : i = a0.size := by omega
        subst hie
        have HE : Aside0 (xs = spellF (L a0)) := ⟨by
          have := HX.out
          rwa [List.drop_eq_nil_of_le (by rw [L_length]; omega), spellF, List.append_nil] at this⟩
        go_wp2_with fail
        refine (Try.Builder_Len _ _ _ _ HO.out).mono ?_
        rintro e w1 ⟨rfl, rfl⟩
        rw [Lib.byteCells_length]
        by_cases hb : xs.length > 65536
        · have hbd : decide ((65536 : Int) < (xs.length : Int)) = true := decide_eq_true (by omega)
          have HV : Aside0 (([] : List UInt8) = r1 ∧ (3 : Int) = r2) := ⟨by
            have := HR.out
            rw [← HE.out, if_pos hb] at this
            exact ⟨congrArg Prod.fst this, congrArg Prod.snd this⟩⟩
          clear hb
          go_wp2
          go_ret2
          obtain ⟨rfl, rfl⟩ := HV.out
          exact ⟨rfl, HB.out⟩
        · have hbd : decide ((65536 : Int) < (xs.length : Int)) = false := decide_eq_false (by omega)
          have HV : Aside0 (xs = r1 ∧ (0 : Int) = r2) := ⟨by
            have := HR.out
            rw [← HE.out, if_neg hb] at this
            exact ⟨congrArg Prod.fst this, congrArg Prod.snd this⟩⟩
          clear hb
          go_wp2_with fail
          refine (Try.Builder_String_any _ _ _ _ HO.out HB.out.size).mono ?_
          rintro e w2 ⟨rfl, hw2⟩
          have HB2 := Aside0.mk (HB.out.trans hw2)
          clear hw2
          go_wp2
          go_ret2
          obtain ⟨rfl, rfl⟩ := HV.out
          exact ⟨rfl, HB2.out⟩
set_option maxHeartbeats 1000000 in
set_option maxRecDepth 100000 in
theorem phys_Spell.calls (a0 : ByteArray) (r1 : ByteArray) (r2 : Int) (w : World) (h : phys_Spell.f a0 = some (r1, r2)) :
    Calls Try.prog 32 #[.string a0] w fun e w' => e = .returned (.tuple #[.string r1, .int .i64 r2]) ∧ Below w.heap.size w w' := by
  unfold phys_Spell.f at h
  have h' := Option.some.inj h
  clear h
  obtain ⟨rfl, rfl⟩ := Prod.mk.inj h'
  clear h'
  by_cases hs : a0.size > 65536
  · have HR : Aside0 (spellR (L a0) = ([], 3)) := ⟨by unfold spellR; rw [if_pos (by rw [L_length]; exact hs)]⟩
    go_enter Try.func32, Try.ntmps32
    go_wp2
    go_ret2
    rw [HR.out]
    exact ⟨rfl, Below.refl _ _⟩
  · by_cases hn : a0.size = 0
    · refine spell_main a0 (by omega) (.inl hn) _ _ ⟨?_⟩ w
      have e1 : ¬ (L a0).length > 65536 := by rw [L_length]; exact hs
      have e2 : ¬ (L a0 ≠ [] ∧ (L a0).getD ((L a0).length - 1) 0 ≠ 10) := by intro e; exact e.1 (List.eq_nil_of_length_eq_zero (by rw [L_length]; exact hn))
      unfold spellR
      simp only [if_neg e1, if_neg e2]
    · have hi : a0.size - 1 < a0.size := by omega
      by_cases h10 : (a0[a0.size - 1]'hi) = 10
      · refine spell_main a0 (by omega) (.inr ⟨hi, h10⟩) _ _ ⟨?_⟩ w
        have e1 : ¬ (L a0).length > 65536 := by rw [L_length]; exact hs
        have e2 : ¬ (L a0 ≠ [] ∧ (L a0).getD ((L a0).length - 1) 0 ≠ 10) := by intro e; refine e.2 ?_; rw [L_length]; exact (get_at a0 _ hi).symm.trans h10
        unfold spellR
        simp only [if_neg e1, if_neg e2]
      · have HR : Aside0 (spellR (L a0) = ([], 10)) := ⟨by
          unfold spellR
          rw [if_neg (by rw [L_length]; exact hs), if_pos ⟨fun e => hn (by rw [← L_length, e]; rfl), by rw [L_length]; exact fun e => h10 ((get_at a0 _ hi).trans e)⟩]⟩
        have h4 := nonempty_of a0 hn
        have h11 : (((a0[a0.size - 1]'hi).toNat : Int) != 10) = true := by
          rw [bne_iff_ne]
          intro e
          exact h10 (UInt8.toNat_inj.1 (by simp; omega))
        clear h10
        go_enter Try.func32, Try.ntmps32
        go_wp2
        go_ret2
        rw [HR.out]
        exact ⟨rfl, Below.refl _ _⟩
end Go.Proofs.Ytonfmnohmigjpaa.P
