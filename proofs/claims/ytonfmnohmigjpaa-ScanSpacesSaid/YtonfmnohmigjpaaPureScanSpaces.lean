/- The plain law ScanSpaces: the texts of a text's tokens, with a blank ahead of each but line ends, spelt, have the same tokens. -/
import Derived.Test.YtonfmnohmigjpaaF17
import Derived.Test.YtonfmnohmigjpaaTr
namespace Go.Proofs.Ytonfmnohmigjpaa.P
open Go.RowKit Go.Proofs.YtonfmnohmigjpaaW.PrintWords Go.Proofs.YtonfmnohmigjpaaW.PrintLast

/-- The tokens' texts, with a blank ahead of each but line ends. -/
def jn : List S26 → List UInt8
  | [] => []
  | t :: r => (if t.f0 = 9 then [] else [32]) ++ L t.f1 ++ jn r
/-- The same, without what is ahead of the first one. -/
def jn0 : List S26 → List UInt8
  | [] => []
  | t :: r => L t.f1 ++ jn r
def jnI (F : List S26) (i : Nat) : List UInt8 := if i = 0 then jn0 F else jn (F.drop i)
theorem nums8_app (a b : List UInt8) : nums8 a ++ nums8 b = nums8 (a ++ b) := by simp [nums8]
theorem bytesOf8 (y : ByteArray) : bytesOf y = nums8 (L y) := rfl
def spFin (k : Nat) (F : List S26) (x6 : List Int) : Option Bool := (phys_Spell.f (strOfNums x6)).bind fun bt622 => ((scan_Scan.f bt622.1).bind fun bt624 => (if bt622.2 = 0 then (if bt624.2 = 0 then (regletlaw02_ScanSpaces.j2 k true F bt624.1 ((bt624.1.length : Int) != (F.length : Int))) else (regletlaw02_ScanSpaces.j2 k true F bt624.1 true)) else (regletlaw02_ScanSpaces.j2 k true F bt624.1 true)))
theorem w64t (i : Nat) (h1 : i ≤ 65536) : wrap64 ((i : Int) + 1) = ((i + 1 : Nat) : Int) := by unfold wrap64; omega
theorem drop26 (F : List S26) (i : Nat) (h : i < F.length) : F.drop i = rd_T26 F (i : Int) :: F.drop (i + 1) := by
  rw [List.drop_eq_getElem_cons h]
  congr 1
  unfold rd_T26
  rw [Int.toNat_natCast, List.getD_eq_getElem?_getD, List.getElem?_eq_getElem h, Option.getD_some]
theorem sp_zero (F : List S26) (hF : F.length ≤ 65536) (h : 0 < F.length) (hs : (L (rd_T26 F 0).f1).length ≤ 1000000) (k : Nat) : regletlaw02_ScanSpaces.l0 (k + 1) true F [] 0 = regletlaw02_ScanSpaces.l0 k true F (nums8 (L (rd_T26 F 0).f1)) ((1 : Nat) : Int) := by
  have e1 : (0 : Int) < (F.length : Int) := by omega
  have e2 : ([] : List Int).length + ((rd_T26 F 0).f1).size < 140737488355328 := by rw [← L_length, List.length_nil]; omega
  rw [regletlaw02_ScanSpaces.l0, if_pos e1, if_neg (by decide), if_pos (by decide), if_pos e2, List.nil_append, bytesOf8, show wrap64 (0 + 1) = ((1 : Nat) : Int) by unfold wrap64; omega]
theorem sp_nine (F : List S26) (hF : F.length ≤ 65536) (i : Nat) (h0 : 0 < i) (h : i < F.length) (h9 : (rd_T26 F (i : Int)).f0 = 9) (B : List UInt8) (hs : B.length + (L (rd_T26 F (i : Int)).f1).length ≤ 1000000) (k : Nat) :
    regletlaw02_ScanSpaces.l0 (k + 1) true F (nums8 B) (i : Int) = regletlaw02_ScanSpaces.l0 k true F (nums8 (B ++ L (rd_T26 F (i : Int)).f1)) ((i + 1 : Nat) : Int) := by
  have e1 : (i : Int) < (F.length : Int) := by omega
  have e2 : (i : Int) > 0 := by omega
  have e3 : 0 ≤ (i : Int) := by omega
  have e4 : (nums8 B).length + ((rd_T26 F (i : Int)).f1).size < 140737488355328 := by rw [← L_length, nums8_len]; omega
  rw [regletlaw02_ScanSpaces.l0, if_pos e1, if_pos e2, if_pos e3, if_pos h9, if_pos e4, bytesOf8, nums8_app, w64t i (by omega)]
theorem sp_else (F : List S26) (hF : F.length ≤ 65536) (i : Nat) (h0 : 0 < i) (h : i < F.length) (h9 : (rd_T26 F (i : Int)).f0 ≠ 9) (B : List UInt8) (hs : B.length + (1 + (L (rd_T26 F (i : Int)).f1).length) ≤ 1000000) (k : Nat) :
    regletlaw02_ScanSpaces.l0 (k + 1) true F (nums8 B) (i : Int) = regletlaw02_ScanSpaces.l0 k true F (nums8 (B ++ ([32] ++ L (rd_T26 F (i : Int)).f1))) ((i + 1 : Nat) : Int) := by
  have e1 : (i : Int) < (F.length : Int) := by omega
  have e2 : (i : Int) > 0 := by omega
  have e3 : 0 ≤ (i : Int) := by omega
  have e5 : (nums8 B).length < 140737488355328 := by rw [nums8_len]; omega
  have e6 : nums8 B ++ [32] = nums8 (B ++ [32]) := nums8_app B [32]
  have e4 : (nums8 (B ++ [32])).length + ((rd_T26 F (i : Int)).f1).size < 140737488355328 := by rw [← L_length, nums8_len, List.length_append, List.length_singleton]; omega
  rw [regletlaw02_ScanSpaces.l0, if_pos e1, if_pos e2, if_pos e3, if_neg h9, if_pos e5, Option.bind_some, e6, if_pos e4, bytesOf8, nums8_app, w64t i (by omega), List.append_assoc]
theorem sp_end (F : List S26) (x : List Int) (i : Nat) (h : ¬ i < F.length) (k : Nat) : regletlaw02_ScanSpaces.l0 (k + 1) true F x (i : Int) = spFin k F x := by
  have e1 : ¬ (i : Int) < (F.length : Int) := by omega
  rw [regletlaw02_ScanSpaces.l0, if_neg e1]
  rfl
theorem sp_l0 (F : List S26) (hF : F.length ≤ 65536) (tot : List UInt8) (ht : tot.length ≤ 1000000) (hfin : Ev (fun k => spFin k F (nums8 tot)) true) : ∀ (d i : Nat) (B : List UInt8), F.length - i ≤ d → i ≤ F.length → (i = 0 → B = []) → B ++ jnI F i = tot →
    Ev (fun k => regletlaw02_ScanSpaces.l0 k true F (nums8 B) (i : Int)) true := by
  intro d
  have fin : ∀ (i : Nat) (B : List UInt8), ¬ i < F.length → i ≤ F.length → B ++ jnI F i = tot → Ev (fun k => regletlaw02_ScanSpaces.l0 k true F (nums8 B) (i : Int)) true := by
    intro i B hi hi2 hB
    have : jnI F i = [] := by
      unfold jnI
      split
      · have : F = [] := List.eq_nil_of_length_eq_zero (by omega)
        rw [this]; rfl
      · rw [List.drop_eq_nil_of_le (by omega)]; rfl
    rw [this, List.append_nil] at hB
    rw [hB]
    exact Ev.steps1 (sp_end F _ i hi) hfin
  induction d with
  | zero => exact fun i B h h2 _ hB => fin i B (by omega) h2 hB
  | succ d ih =>
    intro i B hd h2 hB0 hB
    by_cases hi : i < F.length
    · have hD := drop26 F i hi
      have hnext : jnI F (i + 1) = jn (F.drop (i + 1)) := by unfold jnI; rw [if_neg (by omega)]
      by_cases h0 : i = 0
      · subst h0
        have hB0 := hB0 rfl
        subst hB0
        rw [List.drop_zero] at hD
        have hJ : jnI F 0 = L (rd_T26 F 0).f1 ++ jn (F.drop 1) := by
          unfold jnI
          rw [if_pos rfl]
          conv => lhs; rw [hD]
          rfl
        rw [List.nil_append, hJ] at hB
        have hl := congrArg List.length hB
        rw [List.length_append] at hl
        exact Ev.steps1 (sp_zero F hF hi (by omega)) (ih 1 _ (by omega) (by omega) (fun h => by cases h) (by rw [hnext]; exact hB))
      · have hJ : jnI F i = (if (rd_T26 F (i : Int)).f0 = 9 then [] else [32]) ++ L (rd_T26 F (i : Int)).f1 ++ jn (F.drop (i + 1)) := by
          unfold jnI
          rw [if_neg h0, hD]
          rfl
        rw [hJ] at hB
        have hl := congrArg List.length hB
        rw [List.length_append, List.length_append, List.length_append] at hl
        by_cases h9 : (rd_T26 F (i : Int)).f0 = 9
        · rw [if_pos h9] at hB hl
          exact Ev.steps1 (sp_nine F hF i (by omega) hi h9 B (by simp only [List.length_nil] at hl; omega)) (ih (i + 1) _ (by omega) (by omega) (fun h => by cases h) (by rw [hnext, ← hB]; simp))
        · rw [if_neg h9] at hB hl
          exact Ev.steps1 (sp_else F hF i (by omega) hi h9 B (by simp only [List.length_singleton] at hl; omega)) (ih (i + 1) _ (by omega) (by omega) (fun h => by cases h) (by rw [hnext, ← hB]; simp))
    · exact fin i B hi h2 hB
theorem sp_l1 (F G : List S26) (hF : F.length ≤ 65536) (hl : G.length = F.length) (h : ∀ i : Nat, i < F.length → (rd_T26 G (i : Int)).f0 = (rd_T26 F (i : Int)).f0 ∧ (rd_T26 G (i : Int)).f1 = (rd_T26 F (i : Int)).f1) : ∀ (d i : Nat), F.length - i ≤ d →
    Ev (fun k => regletlaw02_ScanSpaces.l1 k true F G (i : Int)) true := by
  intro d
  have fin : ∀ i : Nat, ¬ i < F.length → Ev (fun k => regletlaw02_ScanSpaces.l1 k true F G (i : Int)) true := by
    intro i hi
    have e1 : ¬ (i : Int) < (F.length : Int) := by omega
    exact Ev.done1 fun k => by rw [regletlaw02_ScanSpaces.l1, if_neg e1]
  induction d with
  | zero => exact fun i h => fin i (by omega)
  | succ d ih =>
    intro i hd
    by_cases hi : i < F.length
    · have e1 : (i : Int) < (F.length : Int) := by omega
      have e2 : 0 ≤ (i : Int) := by omega
      have e3 : (i : Int) < (G.length : Int) := by omega
      obtain ⟨g0, g1⟩ := h i hi
      refine Ev.steps1 (fun k => ?_) (ih (i + 1) (by omega))
      rw [regletlaw02_ScanSpaces.l1, if_pos e1, if_pos e2, if_pos e3, if_pos g0, if_pos (by rw [g1]), w64t i (by omega)]
    · exact fin i hi
theorem jn_join (cs : List S55) (ts : List (S26 × Int)) : jn (ts.map (fun p => reloc cs p.1)) = joinR ts := by
  induction ts with
  | nil => rfl
  | cons p r ih => rw [List.map_cons, jn, joinR, ih]; rfl
theorem key_at {ts us : List (S26 × Int)} (h : us.map keyT = ts.map keyT) (i : Nat) (hi : i < ts.length) (hu : i < us.length) : us[i].1.f0 = ts[i].1.f0 ∧ us[i].1.f1 = ts[i].1.f1 ∧ us[i].2 = ts[i].2 := by
  have h1 : (us.map keyT)[i]'(by rw [List.length_map]; exact hu) = (ts.map keyT)[i]'(by rw [List.length_map]; exact hi) := by simp only [h]
  rw [List.getElem_map, List.getElem_map] at h1
  unfold keyT at h1
  obtain ⟨h2, h3⟩ := Prod.mk.inj h1
  obtain ⟨h4, h5⟩ := Prod.mk.inj h3
  exact ⟨h2, h4, h5⟩
/-- What is spelt has the tokens of what was to be spelt. -/
theorem scan_spelt (J : List UInt8) (h1 : (spellF J).length ≤ 65536) (h2 : J = [] ∨ J.getLast? = some 10) : (spellR J) = (spellF J, 0) ∧ checkR (spellF J) = 0 ∧ toksR (spellF J) = toksF 0 false [] J := by
  have hl : J.length ≤ (spellF J).length := by
    have := (back_all J 0).2; omega
  have hn : ¬ (J ≠ [] ∧ J.getD (J.length - 1) 0 ≠ 10) := by
    rintro ⟨h3, h4⟩
    rcases h2 with h2 | h2
    · exact h3 h2
    · rw [getD_last J h3] at h2
      exact h4 (Option.some.inj h2)
  refine ⟨?_, check_spell J h1 hn, ?_⟩
  · unfold spellR
    rw [if_neg (by omega), if_neg hn, if_neg (by omega)]
  · unfold toksR charsR
    rw [if_pos (check_spell J h1 hn)]
    dsimp only
    rw [(back_all J 0).1]
end Go.Proofs.Ytonfmnohmigjpaa.P
namespace Go.Proofs.Ytonfmnohmigjpaa.Pure
open Go.RowKit Go.Proofs.Ytonfmnohmigjpaa.P Go.Proofs.YtonfmnohmigjpaaW.PrintWords Go.Proofs.YtonfmnohmigjpaaW.PrintLast
theorem ScanSpaces : regletlaw02_ScanSpaces.Pure := by
  intro s hs
  have ha : Ev (fun k => regletlaw02_alive.f k) true := Ev.of regletlaw02_alive.mono (k := 9) (by decide +kernel)
  have key : Ev (fun k => regletlaw02_ScanSpaces.f k s) true := by
    unfold regletlaw02_ScanSpaces.f
    refine Ev.bind ha ?_
    unfold scan_Scan.f
    simp only [Option.bind_some]
    by_cases h : (scanR (L s)).2 = 0
    · by_cases hz20 : (s.size : Int) > 20000
      · refine Ev.done1 fun k => ?_
        rw [if_pos h, if_pos hz20, regletlaw02_ScanSpaces.j0, if_pos rfl]
      · obtain ⟨h1, h2, h3⟩ := scan_good (L s) h
        have hsz := checkR_small h1
        have hb := bytes_len s
        have hlen : (toksR (L s)).length ≤ 65536 := by
          have h4 := toks_len _ 0 false [] (bytesL (charsR (L s)).1) rfl
          unfold toksR
          omega
        have hlast : bytesL (charsR (L s)).1 = [] ∨ (bytesL (charsR (L s)).1).getLast? = some 10 := log_last (L s) h1
        rw [h3]
        obtain ⟨l, hl⟩ : ∃ l, l = bytesL (charsR (L s)).1 := ⟨_, rfl⟩
        have hts : toksR (L s) = toksF 0 false [] l := by rw [hl]; rfl
        rw [← hl] at hb hlast
        obtain ⟨F, hF⟩ : ∃ F, F = (toksR (L s)).map (fun p => reloc (charsR (L s)).1 p.1) := ⟨_, rfl⟩
        rw [← hF]
        have hFl : F.length = (toksR (L s)).length := by rw [hF, List.length_map]
        obtain ⟨ts, hts2⟩ : ∃ ts, ts = toksR (L s) := ⟨_, rfl⟩
        rw [← hts2] at hF hFl h2 hlen
        rw [← hts2] at hts
        -- the text that is spelt
        have hJ : ∃ J, jnI F 0 = J ∧ (joinR ts = J ∨ joinR ts = 32 :: J) := by
          refine ⟨_, rfl, ?_⟩
          unfold jnI
          rw [if_pos rfl, ← jn_join (charsR (L s)).1 ts, ← hF]
          cases F with
          | nil => exact .inl rfl
          | cons t r =>
            rw [jn, jn0]
            split
            · exact .inl rfl
            · exact .inr rfl
        obtain ⟨J, hJ1, hJ2⟩ := hJ
        have hz : ∀ x ∈ toksF 0 false [] l, x.2 = 0 := by rw [← hts]; exact h2
        have hsp := spell_join _ 0 false [] l rfl hz
        rw [← hts] at hsp
        have hJs : (spellF J).length ≤ 60000 := by
          rcases hJ2 with e | e
          · rw [e] at hsp; omega
          · rw [e, spell_cons32] at hsp; omega
        have hJl : J = [] ∨ J.getLast? = some 10 := by
          rcases hlast with e | e
          · left
            rw [e, toksF_nil] at hts
            rw [hts] at hJ2
            rcases hJ2 with e2 | e2
            · exact e2.symm
            · cases e2
          · have := (join_last _ 0 false [] l rfl hz e).2
            rw [← hts] at this
            rcases hJ2 with e2 | e2
            · rw [e2] at this; exact .inr this
            · rw [e2] at this
              cases hj : J with
              | nil => exact .inl rfl
              | cons c r => rw [hj, List.getLast?_cons_cons] at this; exact .inr this
        obtain ⟨p1, p2, p3⟩ := scan_spelt J (by omega) hJl
        have hk : (toksF 0 false [] J).map keyT = ts.map keyT := by
          rw [hts]
          rcases hJ2 with e | e
          · rw [← e, hts]; exact space_l _ 0 false [] l rfl hz 0 false
          · have := space_l _ 0 false [] l rfl hz 0 false
            rw [← hts, e, toksF_white _ _ _ _ _ rfl] at this
            rw [← hts, ← this]
            exact toks_any _ _ _ _ _ rfl _ _
        have hul : (toksF 0 false [] J).length = ts.length := by
          have := congrArg List.length hk
          rwa [List.length_map, List.length_map] at this
        have huz : errT (toksR (spellF J)) = 0 := by
          rw [p3]
          refine errT_zero _ fun p hp => ?_
          obtain ⟨i, hi, rfl⟩ := List.getElem_of_mem hp
          rw [(key_at hk i (by omega) hi).2.2]
          exact h2 _ (List.getElem_mem _)
        have hfin : Ev (fun k => spFin k F (nums8 J)) true := by
          unfold spFin phys_Spell.f scan_Scan.f
          rw [strOf8, L_mk, p1]
          simp only [Option.bind_some]
          rw [L_mk]
          have e1 : scanR (spellF J) = ((toksR (spellF J)).map (fun p => reloc (charsR (spellF J)).1 p.1), 0) := by
            unfold scanR
            rw [if_pos p2, if_pos huz]
          rw [e1, p3]
          have e2 : (((((toksF 0 false [] J).map (fun p => reloc (charsR (spellF J)).1 p.1), (0 : Int)).1.length : Nat) : Int) != (F.length : Int)) = false := by
            rw [bne_eq_false_iff_eq]
            dsimp only
            rw [List.length_map, hul, hFl]
          refine Ev.steps1 (f := fun k => regletlaw02_ScanSpaces.l1 k true F ((toksF 0 false [] J).map (fun p => reloc (charsR (spellF J)).1 p.1)) ((0 : Nat) : Int)) (fun k => ?_) ?_
          · rw [if_pos rfl, if_pos trivial, e2, regletlaw02_ScanSpaces.j2, if_neg (by decide)]; rfl
          · refine sp_l1 F _ (by omega) (by rw [List.length_map, hul, hFl]) (fun i hi => ?_) _ 0 (Nat.le_refl _)
            have hi2 : i < ts.length := by omega
            have hi3 : i < (toksF 0 false [] J).length := by omega
            have hFi := rd26_map (charsR (L s)).1 ts i hi2
            rw [← hF] at hFi
            rw [rd26_map _ _ i hi3, hFi]
            have := key_at hk i hi2 hi3
            exact ⟨this.1, this.2.1⟩
        refine Ev.steps1 (f := fun k => regletlaw02_ScanSpaces.l0 k true F (nums8 []) ((0 : Nat) : Int)) (fun k => ?_) (sp_l0 F (by omega) J (by have := (back_all J 0).2; omega) hfin _ 0 [] (Nat.le_refl _) (Nat.zero_le _) (fun _ => rfl) (by rw [List.nil_append]; exact hJ1))
        rw [if_pos rfl, if_neg hz20, regletlaw02_ScanSpaces.j0, if_neg (by decide)]; rfl
    · refine Ev.done1 fun k => ?_
      rw [if_neg h, regletlaw02_ScanSpaces.j0, if_pos rfl]
  exact key.rounds
end Go.Proofs.Ytonfmnohmigjpaa.Pure
