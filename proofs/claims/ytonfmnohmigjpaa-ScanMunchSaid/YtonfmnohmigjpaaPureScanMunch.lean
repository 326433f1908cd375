/- The plain law ScanMunch: two tokens that stand side by side on a line, with nothing between, do not fuse. -/
import Derived.Test.YtonfmnohmigjpaaF15
import Derived.Test.YtonfmnohmigjpaaTr
namespace Go.Proofs.Ytonfmnohmigjpaa.P
open Go.RowKit Go.Proofs.YtonfmnohmigjpaaW.PrintWords Go.Proofs.YtonfmnohmigjpaaW.PrintLast

theorem w64p (i : Nat) (h0 : 1 ≤ i) (h1 : i ≤ 65536) : wrap64 ((i : Int) - 1) = ((i - 1 : Nat) : Int) := by unfold wrap64; omega
theorem w64s (i : Nat) (h1 : i ≤ 65536) : wrap64 ((i : Int) + 1) = ((i + 1 : Nat) : Int) := by unfold wrap64; omega
/-- Two neighbours in a list of tokens do not fuse. -/
def NoFuse (F : List S26) : Prop := ∀ i : Nat, 1 ≤ i → i < F.length → (rd_T26 F (i : Int)).f4 = false → (rd_T26 F (i : Int)).f0 ≠ 7 → (rd_T26 F ((i - 1 : Nat) : Int)).f0 ≠ 7 →
  scan_Fuses.f (rd_T26 F ((i - 1 : Nat) : Int)).f1 (rd_T26 F (i : Int)).f1 = some (false, 0)
theorem munch_j2t (F : List S26) (i : Nat) (h1 : i ≤ 65536) (k : Nat) : regletlaw02_ScanMunch.j2 (k + 1) true F (i : Int) true = regletlaw02_ScanMunch.l0 k true F ((i + 1 : Nat) : Int) := by
  rw [regletlaw02_ScanMunch.j2, if_pos rfl, w64s i h1]
theorem munch_j2f (F : List S26) (i : Nat) (h0 : 1 ≤ i) (h1 : i ≤ 65536) (h2 : i < F.length) (hf : scan_Fuses.f (rd_T26 F ((i - 1 : Nat) : Int)).f1 (rd_T26 F (i : Int)).f1 = some (false, 0)) (k : Nat) :
    regletlaw02_ScanMunch.j2 (k + 1) true F (i : Int) false = regletlaw02_ScanMunch.l0 k true F ((i + 1 : Nat) : Int) := by
  have e1 : (0 : Int) ≤ ((i - 1 : Nat) : Int) := by omega
  have e2 : ((i - 1 : Nat) : Int) < (F.length : Int) := by omega
  have e3 : (0 : Int) ≤ (i : Int) := by omega
  have e4 : (i : Int) < (F.length : Int) := by omega
  rw [regletlaw02_ScanMunch.j2, if_neg (by decide), w64p i h0 h1, if_pos e1, if_pos e2, if_pos e3, if_pos e4, hf, Option.bind_some, w64s i h1]
  rfl
theorem munch_j2 (F : List S26) (i : Nat) (h0 : 1 ≤ i) (h1 : i ≤ 65536) (h2 : i < F.length) (b : Bool) (hf : b = false → scan_Fuses.f (rd_T26 F ((i - 1 : Nat) : Int)).f1 (rd_T26 F (i : Int)).f1 = some (false, 0)) (k : Nat) :
    regletlaw02_ScanMunch.j2 (k + 1) true F (i : Int) b = regletlaw02_ScanMunch.l0 k true F ((i + 1 : Nat) : Int) := by
  cases b with
  | true => exact munch_j2t F i h1 k
  | false => exact munch_j2f F i h0 h1 h2 (hf rfl) k
theorem munch_l0 (F : List S26) (hF : F.length ≤ 65536) (H : NoFuse F) (i : Nat) (h0 : 1 ≤ i) (h2 : i < F.length) : ∃ b, (b = false → scan_Fuses.f (rd_T26 F ((i - 1 : Nat) : Int)).f1 (rd_T26 F (i : Int)).f1 = some (false, 0)) ∧
    ∀ k, regletlaw02_ScanMunch.l0 (k + 1) true F (i : Int) = regletlaw02_ScanMunch.j2 k true F (i : Int) b := by
  have e1 : (0 : Int) ≤ ((i - 1 : Nat) : Int) := by omega
  have e2 : ((i - 1 : Nat) : Int) < (F.length : Int) := by omega
  have e3 : (0 : Int) ≤ (i : Int) := by omega
  have e4 : (i : Int) < (F.length : Int) := by omega
  have e5 := w64p i h0 (by omega)
  cases c1 : (rd_T26 F (i : Int)).f4 with
  | true => exact ⟨true, (fun h => nomatch h), fun k => by rw [regletlaw02_ScanMunch.l0, if_pos e4, if_pos e3, c1, if_pos rfl]⟩
  | false =>
    by_cases c2 : (rd_T26 F (i : Int)).f0 = 7
    · exact ⟨true, (fun h => nomatch h), fun k => by rw [regletlaw02_ScanMunch.l0, if_pos e4, if_pos e3, c1, if_neg (by decide), if_pos c2]⟩
    · refine ⟨(rd_T26 F ((i - 1 : Nat) : Int)).f0 == 7, fun h => ?_, fun k => by rw [regletlaw02_ScanMunch.l0, if_pos e4, if_pos e3, c1, if_neg (by decide), if_neg c2, e5, if_pos e1, if_pos e2]⟩
      exact H i h0 h2 c1 c2 (beq_eq_false_iff_ne.1 h)
theorem munch_ev (F : List S26) (hF : F.length ≤ 65536) (H : NoFuse F) : ∀ d i : Nat, F.length - i ≤ d → 1 ≤ i → Ev (fun k => regletlaw02_ScanMunch.l0 k true F (i : Int)) true := by
  intro d
  have fin : ∀ i : Nat, ¬ i < F.length → Ev (fun k => regletlaw02_ScanMunch.l0 k true F (i : Int)) true := by
    intro i hi
    have e : ¬ (i : Int) < (F.length : Int) := by omega
    exact Ev.done1 fun k => by rw [regletlaw02_ScanMunch.l0, if_neg e]
  induction d with
  | zero => exact fun i h _ => fin i (by omega)
  | succ d ih =>
    intro i hd h0
    by_cases hi : i < F.length
    · obtain ⟨b, hb, hk⟩ := munch_l0 F hF H i h0 hi
      exact Ev.steps1 hk (Ev.steps1 (munch_j2 F i h0 (by omega) hi b hb) (ih (i + 1) (by omega) (by omega)))
    · exact fin i hi
theorem no_fuse (s : ByteArray) (hs : s.size ≤ 65536) (hz : ∀ p ∈ toksR (L s), p.2 = 0) : NoFuse ((toksR (L s)).map (fun p => reloc (charsR (L s)).1 p.1)) := by
  intro i h0 h2 c1 c2 c3
  rw [List.length_map] at h2
  rw [rd26_map _ _ i h2] at c1 c2 ⊢
  rw [rd26_map _ _ (i - 1) (by omega)] at c3 ⊢
  have hx : (toksR (L s))[i - 1]'(by omega) ∈ toksR (L s) := List.getElem_mem _
  have hy : (toksR (L s))[i] ∈ toksR (L s) := List.getElem_mem _
  have hsp : toksR (L s) = (toksR (L s)).take (i - 1) ++ (toksR (L s))[i - 1]'(by omega) :: (toksR (L s))[i] :: (toksR (L s)).drop (i + 1) := by
    have d1 := List.drop_eq_getElem_cons (l := toksR (L s)) (i := i - 1) (by omega)
    have d2 := List.drop_eq_getElem_cons (l := toksR (L s)) (i := i) h2
    rw [show i - 1 + 1 = i by omega, d2] at d1
    rw [← d1, List.take_append_drop]
  have hm := munch_l _ 0 false [] (bytesL (charsR (L s)).1) rfl _ _ _ _ hsp (hz _ hx) (hz _ hy) c1 c3 c2
  have b1 := tok_size _ 0 false [] (bytesL (charsR (L s)).1) rfl _ hx
  have b2 := tok_size _ 0 false [] (bytesL (charsR (L s)).1) rfl _ hy
  have b3 := bytes_len s
  unfold scan_Fuses.f
  rw [if_pos]
  · exact congrArg some hm
  · show ((toksR (L s))[i - 1]'(by omega)).1.f1.size + ((toksR (L s))[i]).1.f1.size ≤ 1000000
    omega
end Go.Proofs.Ytonfmnohmigjpaa.P
namespace Go.Proofs.Ytonfmnohmigjpaa.Pure
open Go.RowKit Go.Proofs.Ytonfmnohmigjpaa.P Go.Proofs.YtonfmnohmigjpaaW.PrintWords Go.Proofs.YtonfmnohmigjpaaW.PrintLast
theorem ScanMunch : regletlaw02_ScanMunch.Pure := by
  intro s hs
  have ha : Ev (fun k => regletlaw02_alive.f k) true := Ev.of regletlaw02_alive.mono (k := 9) (by decide +kernel)
  have key : Ev (fun k => regletlaw02_ScanMunch.f k s) true := by
    unfold regletlaw02_ScanMunch.f
    refine Ev.bind ha ?_
    unfold scan_Scan.f
    simp only [Option.bind_some]
    by_cases h : (scanR (L s)).2 = 0
    · obtain ⟨h1, h2, h3⟩ := scan_good (L s) h
      have hsz := checkR_small h1
      have hlen : (toksR (L s)).length ≤ 65536 := by
        have h4 := toks_len _ 0 false [] (bytesL (charsR (L s)).1) rfl
        have h5 := bytes_len s
        unfold toksR
        omega
      rw [h3]
      refine Ev.steps1 (f := fun k => regletlaw02_ScanMunch.l0 k true ((toksR (L s)).map (fun p => reloc (charsR (L s)).1 p.1)) ((1 : Nat) : Int)) (fun k => ?_) (munch_ev _ (by rw [List.length_map]; exact hlen) (no_fuse s hsz h2) _ 1 (Nat.le_refl _) (Nat.le_refl _))
      rw [if_pos rfl, regletlaw02_ScanMunch.j0, if_neg (by decide)]; rfl
    · refine Ev.done1 fun k => ?_
      rw [if_neg h, regletlaw02_ScanMunch.j0, if_pos rfl]
  exact key.rounds
end Go.Proofs.Ytonfmnohmigjpaa.Pure
