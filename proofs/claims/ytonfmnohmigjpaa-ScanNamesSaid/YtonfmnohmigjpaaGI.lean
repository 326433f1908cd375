-- Written by wip/pr.py (the kit's printer, driven for functions that are proved by hand beside it), and put together by wip/mg.py.
import Derived.Test.YtonfmnohmigjpaaPhs
import Derived.Test.YtonfmnohmigjpaaBld
import Derived.Deep.DeepMust
import Derived.RangeFuncNested
import Derived.RangeFuncBound
import Derived.RangeFuncCalls
import Derived.RangeFuncLeaves
import Derived.Shelf.Abstract
import Derived.Shelf.RegionOpen
import Derived.WalkKit
import Derived.OwnWalkIn
import Derived.TacticsInMore
import Derived.LoopNIn
import Derived.LoopIn
import Derived.Test.YtonfmnohmigjpaaGH
import Derived.Test.YtonfmnohmigjpaaRt
import Derived.RangeFuncBox
import Derived.Maps.AppendAt
/- The contract of phys.Spell: it answers how a text is spelt, or what stands against it. -/
namespace Go.Proofs.Ytonfmnohmigjpaa.P
open Go.RowKit Go.Proofs.YtonfmnohmigjpaaW.PrintWords Go.Proofs.YtonfmnohmigjpaaW.PrintLast Go.Proofs.YtonfmnohmigjpaaW.PrintMore

/-- What Spell answers. -/
def spellR (l : List UInt8) : List UInt8 × Int :=
  if l.length > 65536 then ([], 3) else if l ≠ [] ∧ l.getD (l.length - 1) 0 ≠ 10 then ([], 10) else if (spellF l).length > 65536 then ([], 3) else (spellF l, 0)
def phys_Spell.f (a0 : ByteArray) : Option (ByteArray × Int) := some (⟨(spellR (L a0)).1.toArray⟩, (spellR (L a0)).2)

theorem spell_step (c : UInt8) (r xs tot : List UInt8) (h : xs ++ spellF (c :: r) = tot) : (xs ++ [c]) ++ (if parts (c :: r) then [92, 10] else []) ++ spellF r = tot := by
  rw [← h]
  show _ = xs ++ (if parts (c :: r) then c :: 92 :: 10 :: spellF r else c :: spellF r)
  split <;> simp
theorem cells_snoc (l : List UInt8) (c : UInt8) : Lib.byteCells l ++ [.int .u8 (c.toNat : Int)] = Lib.byteCells (l ++ [c]) := by simp [Lib.byteCells]
theorem cells_two (l : List UInt8) : Lib.byteCells l ++ Lib.strCells ⟨#[92, 10]⟩ = Lib.byteCells (l ++ [92, 10]) := by simp [Lib.byteCells, Lib.strCells]

theorem empty_of (s : ByteArray) (h : s.size = 0) : s.toList.isEmpty = true := by
  rw [toList_L, List.eq_nil_of_length_eq_zero (by rw [L_length]; exact h : (L s).length = 0)]
  rfl
theorem nonempty_of (s : ByteArray) (h : s.size ≠ 0) : s.toList.isEmpty = false := by
  rw [toList_L]
  have := L_length s
  cases hl : L s with
  | nil => rw [hl] at this; simp at this; omega
  | cons c r => rfl
theorem bld_size {B : Nat} {w w' : World} (hb : Below B w w') (h : B ≤ w.heap.size) : B ≤ w'.heap.size := Nat.le_trans h hb.size

theorem bat_drew {B b : Nat} {bs : List Value} {w : World} (h : BAt B b bs w) (n : Nat) : BAt B b bs (w.drewN n) := h
set_option maxHeartbeats 1000000 in
set_option maxRecDepth 100000 in
theorem spell_main (a0 : ByteArray) (hs : a0.size ≤ 65536) (hpre : a0.size = 0 ∨ ∃ hi : a0.size - 1 < a0.size, (a0[a0.size - 1]'hi) = 10) (r1 : List UInt8) (r2 : Int)
    (HR : Aside0 ((if (spellF (L a0)).length > 65536 then ([], 3) else (spellF (L a0), 0)) = (r1, r2))) (w : World) :
    Calls Try.prog 32 #[.string a0] w fun e w' => e = .returned (.tuple #[.string ⟨r1.toArray⟩, .int .i64 r2]) ∧ Below w.heap.size w w' := by
  have hsl := spellF_length (L a0)
  rw [L_length] at hsl
  have HSL := Aside0.mk hsl
  clear hsl
  have h8 : decide (65536 < (a0.size : Int)) = false := decide_eq_false (by omega)
  have HS := Aside0.mk hs
  rcases hpre with hz | ⟨hi, h10⟩
  · have h4 := empty_of a0 hz
    have HZ := Aside0.mk hz
    clear hz
    go_enter Try.func32, Try.ntmps32
    go_wp2
    go_loopw [21] (fun v21 w' => ∃ (i : Nat) (xs : List UInt8), v21 = .int .i64 i ∧ i ≤ a0.size ∧ xs.length ≤ 3 * i ∧ Aside0 (xs ++ spellF ((L a0).drop i) = spellF (L a0)) ∧ Aside0 (Bld w.heap.size w.heap.size (Lib.byteCells xs) w') ∧ Aside0 (Below w.heap.size w w')) (fun v21 _ => a0.size - (intOf v21).toNat)
    case atStart => exact ⟨0, [], rfl, Nat.zero_le _, Nat.le_refl _, ⟨by simp⟩, ⟨Lib.fresh_isBuilder 102 5 w⟩, ⟨below_alloc (Below.refl _ _) _⟩⟩
    case round =>
      obtain ⟨i, xs, rfl, hi2, hx, HX, HO, HB⟩ := hrel
      by_cases hlt : i < a0.size
      · have HG := Aside0.mk (get_at a0 i hlt)
        have HP := Aside0.mk (parted_f a0 i hlt (by omega))
        have HD := Aside0.mk (drop_at a0 i hlt)
        go_wp2_with fail
        refine (bld_byte w.heap.size w.heap.size (Lib.byteCells xs) _ _ HO.out (by rw [Lib.byteCells_length]; omega) HB.out.size).mono ?_
        rintro e w1 ⟨rfl, hb1, hw1⟩
        have HO1 := Aside0.mk hb1
        have HB1 := Aside0.mk (HB.out.trans hw1)
        clear hb1 hw1
        go_wp2_with fail
        refine (phys_parted.calls a0 (i : Int) _ _ HP.out).mono ?_
        rintro e w2 ⟨rfl, ⟨nd, rfl⟩⟩
        have HQ : ∀ q, parts ((L a0).drop i) = q → Aside0 ((xs ++ [at_ a0 i]) ++ (if q then [92, 10] else []) ++ spellF ((L a0).drop (i + 1)) = spellF (L a0)) := by
          intro q hq
          constructor
          subst hq
          have := spell_step (at_ a0 i) ((L a0).drop (i + 1)) xs (spellF (L a0)) (by rw [← HD.out]; exact HX.out)
          rwa [← HD.out] at this
        cases hq : parts ((L a0).drop i)
        · have HQ1 := HQ _ hq
          clear HQ hq
          go_wp2
          go_roundw
          case rel => exact ⟨i + 1, xs ++ [at_ a0 i], by go_num, by omega, by rw [List.length_append, List.length_singleton]; omega, ⟨by simpa using HQ1.out⟩, ⟨Or.inr (by have := HO1.out; rw [HG.out, cells_snoc] at this; exact bat_drew this nd)⟩, ⟨pw_below_drewN HB1.out nd⟩⟩
          case measure => simp [intOf]; omega
        · have HQ1 := HQ _ hq
          clear HQ hq
          go_wp2_with fail
          refine (bld_string w.heap.size w.heap.size _ _ _ (Or.inr (bat_drew HO1.out nd)) (by rw [List.length_append, Lib.byteCells_length]; show xs.length + 1 + 2 ≤ _; omega) (pw_below_drewN HB1.out nd).size).mono ?_
          rintro e w3 ⟨rfl, hb3, hw3⟩
          have HO3 := Aside0.mk hb3
          have HB3 := Aside0.mk ((pw_below_drewN HB1.out nd).trans hw3)
          clear hb3 hw3
          go_wp2
          go_roundw
          case rel => exact ⟨i + 1, xs ++ [at_ a0 i] ++ [92, 10], by go_num, by omega, by simp only [List.length_append, List.length_cons, List.length_nil]; omega, ⟨by simpa using HQ1.out⟩, ⟨Or.inr (by have := HO3.out; rw [HG.out, cells_snoc, cells_two] at this; exact this)⟩, HB3⟩
          case measure => simp [intOf]; omega
      · have hie : i = a0.size := by omega
        subst hie
        have HE : Aside0 (xs = spellF (L a0)) := ⟨by
          have := HX.out
          rwa [List.drop_eq_nil_of_le (by rw [L_length]; omega), spellF, List.append_nil] at this⟩
        go_wp2_with fail
        refine (Try.Builder_Len _ _ _ _ HO.out).mono ?_
        rintro e w1 ⟨rfl, rfl⟩
        rw [Lib.byteCells_length]
        by_cases hb : xs.length > 65536
        · have hbd : decide ((65536 : Int) < (xs.length : Int)) = true := decide_eq_true (by omega)
          have HV : Aside0 (([] : List UInt8) = r1 ∧ (3 : Int) = r2) := ⟨by
            have := HR.out
            rw [← HE.out, if_pos hb] at this
            exact ⟨congrArg Prod.fst this, congrArg Prod.snd this⟩⟩
          clear hb
          go_wp2
          go_ret2
          obtain ⟨rfl, rfl⟩ := HV.out
          exact ⟨rfl, HB.out⟩
        · have hbd : decide ((65536 : Int) < (xs.length : Int)) = false := decide_eq_false (by omega)
          have HV : Aside0 (xs = r1 ∧ (0 : Int) = r2) := ⟨by
            have := HR.out
            rw [← HE.out, if_neg hb] at this
            exact ⟨congrArg Prod.fst this, congrArg Prod.snd this⟩⟩
          clear hb
          go_wp2_with fail
          refine (Try.Builder_String_any _ _ _ _ HO.out HB.out.size).mono ?_
          rintro e w2 ⟨rfl, hw2⟩
          have HB2 := Aside0.mk (HB.out.trans hw2)
          clear hw2
          go_wp2
          go_ret2
          obtain ⟨rfl, rfl⟩ := HV.out
          exact ⟨rfl, HB2.out⟩
  · have h4 := nonempty_of a0 (by omega)
    have h11 : (((a0[a0.size - 1]'hi).toNat : Int) != 10) = false := by
      rw [h10]; rfl
    clear h10
    go_enter Try.func32, Try.ntmps32
    go_wp2
    go_loopw [21] (fun v21 w' => ∃ (i : Nat) (xs : List UInt8), v21 = .int .i64 i ∧ i ≤ a0.size ∧ xs.length ≤ 3 * i ∧ Aside0 (xs ++ spellF ((L a0).drop i) = spellF (L a0)) ∧ Aside0 (Bld w.heap.size w.heap.size (Lib.byteCells xs) w') ∧ Aside0 (Below w.heap.size w w')) (fun v21 _ => a0.size - (intOf v21).toNat)
    case atStart => exact ⟨0, [], rfl, Nat.zero_le _, Nat.le_refl _, ⟨by simp⟩, ⟨Lib.fresh_isBuilder 102 5 w⟩, ⟨below_alloc (Below.refl _ _) _⟩⟩
    case round =>
      obtain ⟨i, xs, rfl, hi2, hx, HX, HO, HB⟩ := hrel
      by_cases hlt : i < a0.size
      · have HG := Aside0.mk (get_at a0 i hlt)
        have HP := Aside0.mk (parted_f a0 i hlt (by omega))
        have HD := Aside0.mk (drop_at a0 i hlt)
        go_wp2_with fail
        refine (bld_byte w.heap.size w.heap.size (Lib.byteCells xs) _ _ HO.out (by rw [Lib.byteCells_length]; omega) HB.out.size).mono ?_
        rintro e w1 ⟨rfl, hb1, hw1⟩
        have HO1 := Aside0.mk hb1
        have HB1 := Aside0.mk (HB.out.trans hw1)
        clear hb1 hw1
        go_wp2_with fail
        refine (phys_parted.calls a0 (i : Int) _ _ HP.out).mono ?_
        rintro e w2 ⟨rfl, ⟨nd, rfl⟩⟩
        have HQ : ∀ q, parts ((L a0).drop i) = q → Aside0 ((xs ++ [at_ a0 i]) ++ (if q then [92, 10] else []) ++ spellF ((L a0).drop (i + 1)) = spellF (L a0)) := by
          intro q hq
          constructor
          subst hq
          have := spell_step (at_ a0 i) ((L a0).drop (i + 1)) xs (spellF (L a0)) (by rw [← HD.out]; exact HX.out)
          rwa [← HD.out] at this
        cases hq : parts ((L a0).drop i)
        · have HQ1 := HQ _ hq
          clear HQ hq
          go_wp2
          go_roundw
          case rel => exact ⟨i + 1, xs ++ [at_ a0 i], by go_num, by omega, by rw [List.length_append, List.length_singleton]; omega, ⟨by simpa using HQ1.out⟩, ⟨Or.inr (by have := HO1.out; rw [HG.out, cells_snoc] at this; exact bat_drew this nd)⟩, ⟨pw_below_drewN HB1.out nd⟩⟩
          case measure => simp [intOf]; omega
        · have HQ1 := HQ _ hq
          clear HQ hq
          go_wp2_with fail
          refine (bld_string w.heap.size w.heap.size _ _ _ (Or.inr (bat_drew HO1.out nd)) (by rw [List.length_append, Lib.byteCells_length]; show xs.length + 1 + 2 ≤ _; omega) (pw_below_drewN HB1.out nd).size).mono ?_
          rintro e w3 ⟨rfl, hb3, hw3⟩
          have HO3 := Aside0.mk hb3
          have HB3 := Aside0.mk ((pw_below_drewN HB1.out nd).trans hw3)
          clear hb3 hw3
          go_wp2
          go_roundw
          case rel => exact ⟨i + 1, xs ++ [at_ a0 i] ++ [92, 10], by go_num, by omega, by simp only [List.length_append, List.length_cons, List.length_nil]; omega, ⟨by simpa using HQ1.out⟩, ⟨Or.inr (by have := HO3.out; rw [HG.out, cells_snoc, cells_two] at this; exact this)⟩, HB3⟩
          case measure => simp [intOf]; omega
      · have hie : i = a0.size := by omega
        subst hie
        have HE : Aside0 (xs = spellF (L a0)) := ⟨by
          have := HX.out
          rwa [List.drop_eq_nil_of_le (by rw [L_length]; omega), spellF, List.append_nil] at this⟩
        go_wp2_with fail
        refine (Try.Builder_Len _ _ _ _ HO.out).mono ?_
        rintro e w1 ⟨rfl, rfl⟩
        rw [Lib.byteCells_length]
        by_cases hb : xs.length > 65536
        · have hbd : decide ((65536 : Int) < (xs.length : Int)) = true := decide_eq_true (by omega)
          have HV : Aside0 (([] : List UInt8) = r1 ∧ (3 : Int) = r2) := ⟨by
            have := HR.out
            rw [← HE.out, if_pos hb] at this
            exact ⟨congrArg Prod.fst this, congrArg Prod.snd this⟩⟩
          clear hb
          go_wp2
          go_ret2
          obtain ⟨rfl, rfl⟩ := HV.out
          exact ⟨rfl, HB.out⟩
        · have hbd : decide ((65536 : Int) < (xs.length : Int)) = false := decide_eq_false (by omega)
          have HV : Aside0 (xs = r1 ∧ (0 : Int) = r2) := ⟨by
            have := HR.out
            rw [← HE.out, if_neg hb] at this
            exact ⟨congrArg Prod.fst this, congrArg Prod.snd this⟩⟩
          clear hb
          go_wp2_with fail
          refine (Try.Builder_String_any _ _ _ _ HO.out HB.out.size).mono ?_
          rintro e w2 ⟨rfl, hw2⟩
          have HB2 := Aside0.mk (HB.out.trans hw2)
          clear hw2
          go_wp2
          go_ret2
          obtain ⟨rfl, rfl⟩ := HV.out
          exact ⟨rfl, HB2.out⟩
set_option maxHeartbeats 1000000 in
set_option maxRecDepth 100000 in
theorem phys_Spell.calls (a0 : ByteArray) (r1 : ByteArray) (r2 : Int) (w : World) (h : phys_Spell.f a0 = some (r1, r2)) :
    Calls Try.prog 32 #[.string a0] w fun e w' => e = .returned (.tuple #[.string r1, .int .i64 r2]) ∧ Below w.heap.size w w' := by
  unfold phys_Spell.f at h
  have h' := Option.some.inj h
  clear h
  obtain ⟨rfl, rfl⟩ := Prod.mk.inj h'
  clear h'
  by_cases hs : a0.size > 65536
  · have HR : Aside0 (spellR (L a0) = ([], 3)) := ⟨by unfold spellR; rw [if_pos (by rw [L_length]; exact hs)]⟩
    go_enter Try.func32, Try.ntmps32
    go_wp2
    go_ret2
    rw [HR.out]
    exact ⟨rfl, Below.refl _ _⟩
  · by_cases hn : a0.size = 0
    · refine spell_main a0 (by omega) (.inl hn) _ _ ⟨?_⟩ w
      have e1 : ¬ (L a0).length > 65536 := by rw [L_length]; exact hs
      have e2 : ¬ (L a0 ≠ [] ∧ (L a0).getD ((L a0).length - 1) 0 ≠ 10) := by intro e; exact e.1 (List.eq_nil_of_length_eq_zero (by rw [L_length]; exact hn))
      unfold spellR
      simp only [if_neg e1, if_neg e2]
    · have hi : a0.size - 1 < a0.size := by omega
      by_cases h10 : (a0[a0.size - 1]'hi) = 10
      · refine spell_main a0 (by omega) (.inr ⟨hi, h10⟩) _ _ ⟨?_⟩ w
        have e1 : ¬ (L a0).length > 65536 := by rw [L_length]; exact hs
        have e2 : ¬ (L a0 ≠ [] ∧ (L a0).getD ((L a0).length - 1) 0 ≠ 10) := by intro e; refine e.2 ?_; rw [L_length]; exact (get_at a0 _ hi).symm.trans h10
        unfold spellR
        simp only [if_neg e1, if_neg e2]
      · have HR : Aside0 (spellR (L a0) = ([], 10)) := ⟨by
          unfold spellR
          rw [if_neg (by rw [L_length]; exact hs), if_pos ⟨fun e => hn (by rw [← L_length, e]; rfl), by rw [L_length]; exact fun e => h10 ((get_at a0 _ hi).trans e)⟩]⟩
        have h4 := nonempty_of a0 hn
        have h11 : (((a0[a0.size - 1]'hi).toNat : Int) != 10) = true := by
          rw [bne_iff_ne]
          intro e
          exact h10 (UInt8.toNat_inj.1 (by simp; omega))
        clear h10
        go_enter Try.func32, Try.ntmps32
        go_wp2
        go_ret2
        rw [HR.out]
        exact ⟨rfl, Below.refl _ _⟩
end Go.Proofs.Ytonfmnohmigjpaa.P
/- The contract of the iterator phys.pieces: it hands a loop the text's pieces, in order, till the loop says that it is enough. -/
namespace Go.Proofs.Ytonfmnohmigjpaa.P
open Go.RowKit Go.Shelf Go.Proofs.YtonfmnohmigjpaaW.PrintWords Go.Proofs.YtonfmnohmigjpaaW.PrintLast Go.Proofs.YtonfmnohmigjpaaW.PrintMore
attribute [local go_sem] Oper.semAt_some

def encP (x : S55 × Bool) : Array Value := #[.agg #[.int .u8 x.1.f0, .int .i64 x.1.f1, .int .i64 x.1.f2], .bool x.2]

set_option maxRecDepth 100000 in
set_option maxHeartbeats 1000000 in
theorem pieces1_in (n : Nat) (hn : 1 ≤ n) (l Bn B : Nat) (s : ByteArray) (hs : s.size ≤ 140737488351232) (J Jx : List (S55 × Bool) → World → Prop) (hJa : AbidesFrom B J)
    (hY : ∀ pre x W, J pre W → pre.length < (piecesF 0 (L s)).length → YieldAt Fence.wide (n - 1) Try.prog l (encP x) W fun e W' =>
      (e = .returned (.bool true) ∧ J (pre ++ [x]) W' ∧ KpB Bn W W') ∨ (e = .returned (.bool false) ∧ Jx (pre ++ [x]) W'))
    (W : World) (hc : W.cell? ⟨Bn, 0, none⟩ = some (.string s)) (h0 : J [] W) :
    CallsIn Fence.wide n Try.prog 102 #[.func (.yield l) #[] #[], .pointer (some ⟨Bn, 0, none⟩)] W fun e W' => (∃ v, e = .returned v) ∧
      ((∃ ys, ys = piecesF 0 (L s) ∧ J ys W') ∨ (∃ pre, pre <+: piecesF 0 (L s) ∧ Jx pre W')) := by
  refine callsIn_of_wp Try.func102 rfl trivial ?_ rfl
  simp only [Try.ntmps102, List.size_toArray, List.length_cons, List.length_nil, Nat.reduceAdd, Nat.reduceSub, Array.replicate_succ, Array.replicate_zero, List.push_toArray, List.append_toArray, List.nil_append, List.cons_append]
  have HJa := Aside0.mk hJa
  have HY := Aside0.mk hY
  clear hJa hY
  gi_wp2
  gi_loopw [3] (fun v3 wr => ∃ (i : Nat) (pre : List (S55 × Bool)), v3 = .int .i64 i ∧ i ≤ s.size ∧ Aside0 (pre ++ piecesF i ((L s).drop i) = piecesF 0 (L s)) ∧ Aside0 (J pre wr) ∧ wr.cell? ⟨Bn, 0, none⟩ = some (.string s))
    (fun v3 _ => s.size - (intOf v3).toNat)
  case atStart => exact ⟨0, [], rfl, Nat.zero_le _, ⟨by simp⟩, ⟨h0⟩, hc⟩
  case round =>
    obtain ⟨i, pre, rfl, hi, HP, HJ, hcr⟩ := hrel
    by_cases hlt : i < s.size
    · have HD := Aside0.mk (drop_at s i hlt)
      have H1 := Aside0.mk (one_f s i hlt hs 0)
      have HL := Aside0.mk (lenP_le (at_ s i) ((L s).drop (i + 1)))
      have HO := oneL_le (at_ s i) ((L s).drop (i + 1))
      have hsz : ((L s).drop i).length = s.size - i := by rw [List.length_drop, L_length]
      have hC := piecesF_cons i (at_ s i) ((L s).drop (i + 1))
      rw [← HD.out, hsz] at HO
      rw [← HD.out] at hC
      have hn1 := HO.1
      have hn2 := HO.2
      clear HO hsz
      have hS : isSpl ((L s).drop i) = (decide ((oneL ((L s).drop i)).1 = 92) && (((L s).drop i).drop (oneL ((L s).drop i)).2).head? == some 10) := rfl
      have hM : lenP ((L s).drop i) = if isSpl ((L s).drop i) then (oneL ((L s).drop i)).2 + 1 else (oneL ((L s).drop i)).2 := rfl
      rw [List.drop_drop] at hS
      generalize (oneL ((L s).drop i)).1 = b at *
      generalize (oneL ((L s).drop i)).2 = m at *
      have hx : ∀ z : Bool, isSpl ((L s).drop i) = z → pre ++ ((⟨(b.toNat : Int), (i : Int), (((if z then m + 1 else m) : Nat) : Int)⟩, z) :: piecesF (i + (if z then m + 1 else m)) ((L s).drop (i + (if z then m + 1 else m)))) = piecesF 0 (L s) := by
        intro z hz
        have := HP.out
        rw [hC, hM, hz, List.drop_drop] at this
        exact this
      have HX := Aside0.mk hx
      have HS := Aside0.mk hS
      clear hx hS hC hM
      have hlen : ∀ (q : S55 × Bool) (r : List (S55 × Bool)), pre ++ q :: r = piecesF 0 (L s) → pre.length < (piecesF 0 (L s)).length := by
        intro q r e
        rw [← e]; simp
      have HE := Aside0.mk hlen
      clear hlen
      have hbig : (i : Int) + (m : Int) ≤ 140737488351232 := by omega
      by_cases c1 : b = 92
      · have h92 : ((b.toNat : Int) == 92) = true := beq_iff_eq.mpr ((u8_eq _ 92 92 rfl (by omega)).2 c1)
        by_cases c2 : i + m < s.size
        · have hg := get_at s (i + m) c2
          have hd := drop_at s (i + m) c2
          by_cases c3 : at_ s (i + m) = 10
          · have h10 : (((s[i + m]'c2).toNat : Int) == 10) = true := beq_iff_eq.mpr ((u8_eq _ 10 10 rfl (by omega)).2 (hg.trans c3))
            have hz := HX.out true (by rw [HS.out, hd, c1, c3]; rfl)
            simp only [if_true] at hz
            have hz' : pre ++ (⟨(b.toNat : Int), (i : Int), (m : Int) + 1⟩, true) :: piecesF (i + (m + 1)) ((L s).drop (i + (m + 1))) = piecesF 0 (L s) := hz
            have HZ := Aside0.mk hz'
            have hl0 := HE.out _ _ hz'
            clear hz hz' hg hd c1 c3
            gi_wp2_with (refine ⟨trivial, ?_⟩; gi_at_call 103; refine (callsIn_wide.2 (phys_one.calls (0 + 1) s (i : Int) _ _ _ H1.out)).mono ?_; rintro e w1 ⟨rfl, ⟨nd, rfl⟩⟩; obtain ⟨fn, tmps, assign, body, hy, hR⟩ := HY.out pre (⟨(b.toNat : Int), (i : Int), (m : Int) + 1⟩, true) (wr.drewN nd) (HJa.out pre wr (wr.drewN nd) none HJ.out (grown_of_below (pw_below_drewN (Below.refl _ _) nd) _) (by simp)) hl0; dsimp only [encP] at hy)
            refine hR.mono ?_
            rintro e W3 (⟨rfl, hJ3, hk3⟩ | ⟨rfl, hJx3⟩)
            · have hq3 : W3.cell? ⟨Bn, 0, none⟩ = some (.string s) := (cell_heap hk3).trans hcr
              have HJ3 := Aside0.mk hJ3
              clear hJ3 hk3 hR hy
              gi_wp2
              go_roundw
              case rel => exact ⟨i + (m + 1), pre ++ [(⟨(b.toNat : Int), (i : Int), (m : Int) + 1⟩, true)], by go_num, by omega, ⟨by rw [← HZ.out]; simp⟩, HJ3, hq3⟩
              case measure => simp [intOf]; omega
            · have HX3 := Aside0.mk hJx3
              clear hJx3 hR hy
              gi_wp2
              refine bodyPost_ret (results_none rfl _ _ _) rfl ?_
              exact ⟨⟨_, rfl⟩, .inr ⟨_, ⟨_, by rw [← HZ.out, List.append_assoc]; rfl⟩, HX3.out⟩⟩
          · have h10 : (((s[i + m]'c2).toNat : Int) == 10) = false := beq_eq_false_iff_ne.mpr (fun e => c3 (hg.symm.trans ((u8_eq _ 10 10 rfl (by omega)).1 e)))
            have hz := HX.out false (by rw [HS.out]; rw [hd]; simp [c3])
            simp only [if_neg (show ¬ (false = true) by decide)] at hz
            have HZ := Aside0.mk hz
            have hl0 := HE.out _ _ hz
            clear hz hg hd c1 c3
            gi_wp2_with (refine ⟨trivial, ?_⟩; gi_at_call 103; refine (callsIn_wide.2 (phys_one.calls (0 + 1) s (i : Int) _ _ _ H1.out)).mono ?_; rintro e w1 ⟨rfl, ⟨nd, rfl⟩⟩; obtain ⟨fn, tmps, assign, body, hy, hR⟩ := HY.out pre (⟨(b.toNat : Int), (i : Int), (m : Int)⟩, false) (wr.drewN nd) (HJa.out pre wr (wr.drewN nd) none HJ.out (grown_of_below (pw_below_drewN (Below.refl _ _) nd) _) (by simp)) hl0; dsimp only [encP] at hy)
            refine hR.mono ?_
            rintro e W3 (⟨rfl, hJ3, hk3⟩ | ⟨rfl, hJx3⟩)
            · have hq3 : W3.cell? ⟨Bn, 0, none⟩ = some (.string s) := (cell_heap hk3).trans hcr
              have HJ3 := Aside0.mk hJ3
              clear hJ3 hk3 hR hy
              gi_wp2
              go_roundw
              case rel => exact ⟨i + m, pre ++ [(⟨(b.toNat : Int), (i : Int), (m : Int)⟩, false)], by go_num, by omega, ⟨by rw [← HZ.out]; simp⟩, HJ3, hq3⟩
              case measure => simp [intOf]; omega
            · have HX3 := Aside0.mk hJx3
              clear hJx3 hR hy
              gi_wp2
              refine bodyPost_ret (results_none rfl _ _ _) rfl ?_
              exact ⟨⟨_, rfl⟩, .inr ⟨_, ⟨_, by rw [← HZ.out, List.append_assoc]; rfl⟩, HX3.out⟩⟩
        · have c2' : ¬ (i : Int) + (m : Int) < (s.size : Int) := by omega
          have hz := HX.out false (by rw [HS.out]; rw [List.drop_eq_nil_of_le (by rw [L_length]; omega)]; simp)
          simp only [if_neg (show ¬ (false = true) by decide)] at hz
          have HZ := Aside0.mk hz
          have hl0 := HE.out _ _ hz
          clear hz c1 c2
          gi_wp2_with (refine ⟨trivial, ?_⟩; gi_at_call 103; refine (callsIn_wide.2 (phys_one.calls (0 + 1) s (i : Int) _ _ _ H1.out)).mono ?_; rintro e w1 ⟨rfl, ⟨nd, rfl⟩⟩; obtain ⟨fn, tmps, assign, body, hy, hR⟩ := HY.out pre (⟨(b.toNat : Int), (i : Int), (m : Int)⟩, false) (wr.drewN nd) (HJa.out pre wr (wr.drewN nd) none HJ.out (grown_of_below (pw_below_drewN (Below.refl _ _) nd) _) (by simp)) hl0; dsimp only [encP] at hy)
          refine hR.mono ?_
          rintro e W3 (⟨rfl, hJ3, hk3⟩ | ⟨rfl, hJx3⟩)
          · have hq3 : W3.cell? ⟨Bn, 0, none⟩ = some (.string s) := (cell_heap hk3).trans hcr
            have HJ3 := Aside0.mk hJ3
            clear hJ3 hk3 hR hy
            gi_wp2
            go_roundw
            case rel => exact ⟨i + m, pre ++ [(⟨(b.toNat : Int), (i : Int), (m : Int)⟩, false)], by go_num, by omega, ⟨by rw [← HZ.out]; simp⟩, HJ3, hq3⟩
            case measure => simp [intOf]; omega
          · have HX3 := Aside0.mk hJx3
            clear hJx3 hR hy
            gi_wp2
            refine bodyPost_ret (results_none rfl _ _ _) rfl ?_
            exact ⟨⟨_, rfl⟩, .inr ⟨_, ⟨_, by rw [← HZ.out, List.append_assoc]; rfl⟩, HX3.out⟩⟩
      · have h92 : ((b.toNat : Int) == 92) = false := beq_eq_false_iff_ne.mpr (fun e => c1 ((u8_eq _ 92 92 rfl (by omega)).1 e))
        have hz := HX.out false (by rw [HS.out]; simp [c1])
        simp only [if_neg (show ¬ (false = true) by decide)] at hz
        have HZ := Aside0.mk hz
        have hl0 := HE.out _ _ hz
        clear hz c1
        gi_wp2_with (refine ⟨trivial, ?_⟩; gi_at_call 103; refine (callsIn_wide.2 (phys_one.calls (0 + 1) s (i : Int) _ _ _ H1.out)).mono ?_; rintro e w1 ⟨rfl, ⟨nd, rfl⟩⟩; obtain ⟨fn, tmps, assign, body, hy, hR⟩ := HY.out pre (⟨(b.toNat : Int), (i : Int), (m : Int)⟩, false) (wr.drewN nd) (HJa.out pre wr (wr.drewN nd) none HJ.out (grown_of_below (pw_below_drewN (Below.refl _ _) nd) _) (by simp)) hl0; dsimp only [encP] at hy)
        refine hR.mono ?_
        rintro e W3 (⟨rfl, hJ3, hk3⟩ | ⟨rfl, hJx3⟩)
        · have hq3 : W3.cell? ⟨Bn, 0, none⟩ = some (.string s) := (cell_heap hk3).trans hcr
          have HJ3 := Aside0.mk hJ3
          clear hJ3 hk3 hR hy
          gi_wp2
          go_roundw
          case rel => exact ⟨i + m, pre ++ [(⟨(b.toNat : Int), (i : Int), (m : Int)⟩, false)], by go_num, by omega, ⟨by rw [← HZ.out]; simp⟩, HJ3, hq3⟩
          case measure => simp [intOf]; omega
        · have HX3 := Aside0.mk hJx3
          clear hJx3 hR hy
          gi_wp2
          refine bodyPost_ret (results_none rfl _ _ _) rfl ?_
          exact ⟨⟨_, rfl⟩, .inr ⟨_, ⟨_, by rw [← HZ.out, List.append_assoc]; rfl⟩, HX3.out⟩⟩
    · have hie : i = s.size := by omega
      subst hie
      gi_wp2
      go_end0
      refine ⟨⟨_, rfl⟩, .inl ⟨pre, ?_, HJ.out⟩⟩
      have := HP.out
      rwa [List.drop_eq_nil_of_le (by rw [L_length]; omega), piecesF_nil, List.append_nil] at this
set_option maxHeartbeats 1000000 in
/-- pieces(s): the text is boxed; the function value captures the box. -/
theorem pieces_in (n : Nat) (s : ByteArray) (w : World) :
    CallsIn Fence.wide n Try.prog 84 #[.string s] w fun e w' => e = .returned (.func (.func 102) #[] #[.pointer (some ⟨w.heap.size, 0, none⟩)]) ∧ w' = w.alloc (.cells #[.string s] 9) := by
  refine callsIn_of_wp Try.func84 rfl trivial ?_ rfl
  simp only [Try.ntmps84, List.size_toArray, List.length_cons, List.length_nil, Nat.reduceAdd, Nat.reduceSub, Array.replicate_succ, Array.replicate_zero, List.push_toArray, List.append_toArray, List.nil_append, List.cons_append]
  gi_wp2
  go_ret
  exact ⟨rfl, rfl⟩
/-- What pieces(s) hands back gives all of the text's pieces, in order; or the first ones, where a round has said 'no more'. -/
theorem pieces_stops (n : Nat) (hn : 1 ≤ n) (Bn : Nat) (s : ByteArray) (hs : s.size ≤ 140737488351232) (w : World) (hBn : Bn < w.heap.size) (hc : w.cell? ⟨Bn, 0, none⟩ = some (.string s)) :
    SeqStopsK Fence.wide n Try.prog 102 #[.pointer (some ⟨Bn, 0, none⟩)] encP (KpB Bn) (fun ys => ys = piecesF 0 (L s)) (fun pre => pre <+: piecesF 0 (L s)) (piecesF 0 (L s)).length w := fun l J Jx W hW hJ _ hY h0 =>
  pieces1_in n hn l Bn W.heap.size s hs J Jx hJ hY W ((hW.cell (p := ⟨Bn, 0, none⟩) hBn).trans hc) h0
end Go.Proofs.Ytonfmnohmigjpaa.P
/- The contract of phys.Check: whether a text ends well. -/
namespace Go.Proofs.Ytonfmnohmigjpaa.P
open Go.RowKit Go.Shelf Go.Proofs.YtonfmnohmigjpaaW.PrintWords Go.Proofs.YtonfmnohmigjpaaW.PrintLast Go.Proofs.YtonfmnohmigjpaaW.PrintMore
attribute [local go_sem] Oper.semAt_some

/-- Is a piece a splice that ends the text? -/
def badP (n : Nat) (p : S55 × Bool) : Bool := p.2 && wrap64 (p.1.f1 + p.1.f2) == (n : Int)
/-- What Check answers. -/
def checkR (l : List UInt8) : Int :=
  if l.length > 65536 then 3 else if l = [] then 0 else if l.getD (l.length - 1) 0 ≠ 10 then 10 else if (piecesF 0 l).any (badP l.length) then 10 else 0
def phys_Check.f (a0 : ByteArray) : Option Int := some (checkR (L a0))

def noBad (n : Nat) (pre : List (S55 × Bool)) : Prop := pre.any (badP n) = false
def hasBad (n : Nat) (pre : List (S55 × Bool)) (c : Code) : Prop := pre.any (badP n) = true ∧ c = .exit 0
theorem noBad_snoc {n : Nat} {pre : List (S55 × Bool)} {x : S55 × Bool} (h : noBad n pre) (hx : badP n x = false) : noBad n (pre ++ [x]) := by unfold noBad at *; simp [h, hx]
theorem hasBad_snoc {n : Nat} {pre : List (S55 × Bool)} {x : S55 × Bool} (hx : badP n x = true) : hasBad n (pre ++ [x]) (.exit 0) := ⟨by simp [hx], rfl⟩
theorem blk_own {β : Type} (B : Nat) (cs : Array Value) (t : TypeId) : Own (fun (_ : β) W => Blk W B cs t) := fun _ X _ _ hs hg hrow =>
  (hg.block B (Array.getElem?_eq_some_iff.1 hs).1 (fun e => by obtain ⟨o, ho, hc⟩ := hrow B e.symm; rw [show X.heap[B]? = _ from hs] at ho; cases ho; cases hc)).trans hs
def chCells (x : S55) : Array Value := #[.int .u8 x.f0, .int .i64 x.f1, .int .i64 x.f2]

set_option maxHeartbeats 1000000 in
set_option maxRecDepth 100000 in
theorem check_main (s : ByteArray) (hs : s.size ≤ 65536) (hi : s.size - 1 < s.size) (h10 : (s[s.size - 1]'hi) = 10) (r0 : Int) (HR : Aside0 ((if (piecesF 0 (L s)).any (badP s.size) then (10 : Int) else 0) = r0)) (w : World) :
    Calls Try.prog 47 #[.string s] w fun e w' => e = .returned (.int .i64 r0) ∧ Below w.heap.size w w' := by
  have h4 := nonempty_of s (by omega)
  have h11 : (((s[s.size - 1]'hi).toNat : Int) != 10) = false := by rw [h10]; rfl
  clear h10
  refine (callsIn_wide (n := 4)).1 ?_
  refine callsIn_of_wp_marks Try.func47 rfl trivial ?_ rfl
  simp only [Try.ntmps47, List.size_toArray, List.length_cons, List.length_nil, Nat.reduceAdd, Nat.reduceSub, Array.replicate_succ, Array.replicate_zero, List.push_toArray, List.append_toArray, List.nil_append, List.cons_append]
  gi_wp2
  refine (wpIn_wide (n := 4)).2 (wp_scope_straight ((wpIn_wide (n := 4)).1 ?_))
  gi_wp2
  refine wpIn_label ?_
  gi_wp2_with (refine ⟨trivial, ?_⟩; gi_at_call 84; refine (pieces_in 3 s _).mono ?_; rintro e w1 ⟨rfl, rfl⟩)
  have HSZ : Aside0 (s.size ≤ 140737488351232) := ⟨by omega⟩
  have bA := Boxed.new w 9 (.string s)
  have bE := Boxed.new (w.alloc (.cells #[.string s] 9)) 31 (.int .i64 0)
  have bP := Boxed.new ((w.alloc (.cells #[.string s] 9)).alloc (.cells #[.int .i64 0] 31)) 9 (.string s)
  rw [World.size_alloc] at bE
  rw [World.size_alloc, World.size_alloc] at bP
  have hB0 : Below w.heap.size w (((w.alloc (.cells #[.string s] 9)).alloc (.cells #[.int .i64 0] 31)).alloc (.cells #[.string s] 9)) := below_alloc (below_alloc (below_alloc (Below.refl _ _) _) _) _
  have hz0 : (((w.alloc (.cells #[.string s] 9)).alloc (.cells #[.int .i64 0] 31)).alloc (.cells #[.string s] 9)).heap.size = w.heap.size + 3 := by simp
  refine wpIn_rangeFunc_ownH rfl (by omega) (gf := 102) (lb := #[.pointer (some ⟨w.heap.size + 1 + 1, 0, none⟩)]) rfl trivial (enters_of Try.func102 (by kernel_rfl) rfl)
    (pieces_stops 3 (by omega) (w.heap.size + 1 + 1) s HSZ.out _ (by rw [hz0]; omega) bP.cell) (fun h k => KpB.t h k) (fun W l o o' h1 h2 h3 h4 => KpB.b (by rw [hz0]; omega) W l o o' h1 h2 h3 h4) (Below.refl _ _) (fun _ => rfl)
    (fun pre W => ((Boxed W (w.heap.size + 1) 31 (.int .i64 0) ∧ Boxed W w.heap.size 9 (.string s)) ∧ Boxed W (w.heap.size + 1 + 1) 9 (.string s)) ∧ (noBad s.size pre ∧ Below w.heap.size w W))
    (fun c pre W => ((Boxed W (w.heap.size + 1) 31 (.int .i64 10) ∧ Boxed W w.heap.size 9 (.string s)) ∧ Boxed W (w.heap.size + 1 + 1) 9 (.string s)) ∧ (hasBad s.size pre c ∧ Below w.heap.size w W))
    (OwnFrom.and (OwnFrom.and (OwnFrom.and (Own.from (boxed_own _ _ _) _) (Own.from (boxed_own _ _ _) _)) (Own.from (boxed_own _ _ _) _)) (OwnFrom.and (ownFrom_pure _ _) (ownFrom_below (Nat.le_refl _) (by rw [hz0]; omega))))
    (fun c => OwnFrom.and (OwnFrom.and (OwnFrom.and (Own.from (boxed_own _ _ _) _) (Own.from (boxed_own _ _ _) _)) (Own.from (boxed_own _ _ _) _)) (OwnFrom.and (ownFrom_pure _ _) (ownFrom_below (Nat.le_refl _) (by rw [hz0]; omega))))
    ⟨⟨⟨bE.alloc _, (bA.alloc _).alloc _⟩, bP⟩, rfl, hB0⟩
    (fun x a' W => ∃ Bx, w.heap.size + 1 + 1 < Bx ∧ Blk W Bx (chCells x.1) 55 ∧ a' = { tmps := #[.string s, .pointer (some ⟨w.heap.size, 0, none⟩), .int .i64 0, .pointer (some ⟨w.heap.size + 1, 0, none⟩), .pointer (some ⟨Bx, 0, none⟩), .bool x.2, .string s, .int .i64 s.size, .bool (decide ((65536 : Int) < (s.size : Int))), .string s, .bool false, .string s, .string s, .int .i64 s.size, .int .i64 ((s.size : Int) - 1), .int .u8 (s[s.size - 1]'hi).toNat, .bool false, .string s, .func (.func 102) #[] #[.pointer (some ⟨w.heap.size + 1 + 1, 0, none⟩)], .agg (chCells x.1), .bool x.2, undef, undef, undef, undef, undef, undef, undef, undef, undef, undef, undef, undef], defers := [] })
    (fun x a' _ X Y row hs hg hr => by obtain ⟨Bx, h1, h2, h3⟩ := hs; exact ⟨Bx, h1, blk_own (β := Unit) Bx _ _ () X Y row h2 hg (fun r e => (hr r e).2), h3⟩)
    ?assign ?body ?done ?stop
  case assign =>
    rintro l pre x W K ⟨⟨⟨bE1, bA1⟩, bP1⟩, hp1, hB1⟩ hK
    dsimp only [encP]
    gi_wp2
    exact hK _ _ ((KeepsOthers.alloc _ _).from _) (Below.heap_alloc W _ _ bP1.lt) ⟨⟨⟨bE1.alloc _, bA1.alloc _⟩, bP1.alloc _⟩, hp1, below_alloc hB1 _⟩ ⟨W.heap.size, bP1.lt, World.alloc_heap_new W _, rfl⟩
  case body =>
    rintro l pre ⟨⟨b, p, n⟩, z⟩ a' W hl ⟨r, hr⟩ ⟨⟨⟨bE1, bA1⟩, bP1⟩, hp1, hB1⟩ ⟨Bx, hBx, bX, rfl⟩ hlt
    have cA := bA1.cell
    have cE := bE1.cell
    have fE := bE1.frozen
    have x1 : W.cell? ⟨Bx, 1, none⟩ = some (.int .i64 p) := bX.cell 1
    have x2 : W.cell? ⟨Bx, 2, none⟩ = some (.int .i64 n) := bX.cell 2
    cases z with
    | false =>
      gi_wp2
      exact ⟨KeepsFrom.refl _ _, rfl, ⟨⟨bE1, bA1⟩, bP1⟩, noBad_snoc hp1 rfl, hB1⟩
    | true =>
      by_cases hq : wrap64 (p + n) = (s.size : Int)
      · have hq' : (wrap64 (p + n) == (s.size : Int)) = true := beq_iff_eq.mpr hq
        gi_wp2
        exact ⟨(KeepsOthers.setCell _ _ _).from _, ⟨⟨bE1.set _, bA1.other (by omega) _⟩, bP1.other (by omega) _⟩, hasBad_snoc (by unfold badP; rw [hq']; rfl), hB1.setCell (p := ⟨w.heap.size + 1, 0, none⟩) (by simp) _⟩
      · have hq' : (wrap64 (p + n) == (s.size : Int)) = false := beq_eq_false_iff_ne.mpr hq
        gi_wp2
        exact ⟨KeepsFrom.refl _ _, rfl, ⟨⟨bE1, bA1⟩, bP1⟩, noBad_snoc hp1 (by unfold badP; rw [hq']; rfl), hB1⟩
  case done =>
    rintro D ys W hD hys ⟨⟨⟨bE2, bA2⟩, bP2⟩, hp, hB⟩ hK
    have cE := bE2.cell
    have HV : Aside0 ((0 : Int) = r0) := ⟨by
      have := HR.out
      rw [← hys, show ys.any (badP s.size) = false from hp] at this
      exact this⟩
    clear hys
    gi_wp2
    refine ⟨by simp, .inl ⟨_, _, rfl, run_takeDeferred hK, ?_⟩⟩
    refine ⟨_, results_tmp rfl _ _ _, by rw [← HV.out]; rfl, ?_⟩
    exact hB.trans (belowK_b (w := w) (Nat.le_refl _) W D _ _ (by rw [hz0] at hD; omega) hK rfl rfl)
  case stop =>
    rintro D c pre W hD hpre ⟨⟨⟨bE2, bA2⟩, bP2⟩, ⟨hp, rfl⟩, hB⟩ hK
    have cE := bE2.cell
    have HV : Aside0 ((10 : Int) = r0) := ⟨by
      have := HR.out
      obtain ⟨rest, hrest⟩ := hpre
      rw [← hrest, List.any_append, hp] at this
      exact this⟩
    clear hpre
    gi_wp2
    refine ⟨by simp, .inl ⟨_, _, rfl, run_takeDeferred hK, ?_⟩⟩
    refine ⟨_, results_tmp rfl _ _ _, by rw [← HV.out]; rfl, ?_⟩
    exact hB.trans (belowK_b (w := w) (Nat.le_refl _) W D _ _ (by rw [hz0] at hD; omega) hK rfl rfl)
set_option maxHeartbeats 1000000 in
set_option maxRecDepth 100000 in
theorem phys_Check.calls (a0 : ByteArray) (r1 : Int) (w : World) (h : phys_Check.f a0 = some r1) :
    Calls Try.prog 47 #[.string a0] w fun e w' => e = .returned (.int .i64 r1) ∧ Below w.heap.size w w' := by
  have HV := Aside0.mk (Option.some.inj h)
  clear h
  by_cases hs : a0.size > 65536
  · have HR : Aside0 ((3 : Int) = r1) := ⟨by have := HV.out; unfold checkR at this; rwa [if_pos (by rw [L_length]; exact hs)] at this⟩
    clear HV
    go_enter Try.func47, Try.ntmps47
    go_wp2
    refine wp_scope_straight ?_
    go_wp2
    refine ⟨by simp, ?_⟩
    refine ⟨_, results_tmp rfl _ _ _, ?_⟩
    rw [← HR.out]
    exact ⟨rfl, below_alloc (Below.refl _ _) _⟩
  · have e1 : ¬ (L a0).length > 65536 := by rw [L_length]; exact hs
    by_cases hn : a0.size = 0
    · have hl : L a0 = [] := List.eq_nil_of_length_eq_zero (by rw [L_length]; exact hn)
      have HR : Aside0 ((0 : Int) = r1) := ⟨by have := HV.out; unfold checkR at this; rwa [if_neg e1, if_pos hl] at this⟩
      have h4 := empty_of a0 hn
      clear HV hl
      go_enter Try.func47, Try.ntmps47
      go_wp2
      refine wp_scope_straight ?_
      go_wp2
      refine ⟨by simp, ?_⟩
      refine ⟨_, results_tmp rfl _ _ _, ?_⟩
      rw [← HR.out]
      exact ⟨rfl, below_alloc (Below.refl _ _) _⟩
    · have hi : a0.size - 1 < a0.size := by omega
      have hl : ¬ L a0 = [] := fun e => hn (by rw [← L_length, e]; rfl)
      by_cases h10 : (a0[a0.size - 1]'hi) = 10
      · refine check_main a0 (by omega) hi h10 r1 ⟨?_⟩ w
        have := HV.out
        unfold checkR at this
        rw [if_neg e1, if_neg hl, if_neg (fun e => e (by rw [L_length]; exact (get_at a0 _ hi).symm.trans h10)), L_length] at this
        exact this
      · have HR : Aside0 ((10 : Int) = r1) := ⟨by
          have := HV.out
          unfold checkR at this
          rwa [if_neg e1, if_neg hl, if_pos (by rw [L_length]; exact fun e => h10 ((get_at a0 _ hi).trans e))] at this⟩
        have h4 := nonempty_of a0 hn
        have h11 : (((a0[a0.size - 1]'hi).toNat : Int) != 10) = true := by
          rw [bne_iff_ne]
          intro e
          exact h10 (UInt8.toNat_inj.1 (by simp; omega))
        clear h10 HV hl
        go_enter Try.func47, Try.ntmps47
        go_wp2
        refine wp_scope_straight ?_
        go_wp2
        refine ⟨by simp, ?_⟩
        refine ⟨_, results_tmp rfl _ _ _, ?_⟩
        rw [← HR.out]
        exact ⟨rfl, below_alloc (Below.refl _ _) _⟩
end Go.Proofs.Ytonfmnohmigjpaa.P
