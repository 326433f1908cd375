/- The plain law ScanCovers: tokens stand in order; between them, ahead and behind stand white space and splices alone. -/
import Derived.Test.YtonfmnohmigjpaaF14
import Derived.Test.YtonfmnohmigjpaaGF
namespace Go.Proofs.Ytonfmnohmigjpaa.P
open Go.RowKit Go.Proofs.YtonfmnohmigjpaaW.PrintWords Go.Proofs.YtonfmnohmigjpaaW.PrintLast

theorem w64_sub (E A : Nat) (h : A ≤ E) (h1 : E ≤ 65536) : wrap64 ((E : Int) - (A : Int)) = ((E - A : Nat) : Int) := by unfold wrap64; omega
theorem w64_suc (i : Nat) (h1 : i ≤ 65536) : wrap64 ((i : Int) + 1) = ((i + 1 : Nat) : Int) := by unfold wrap64; omega
theorem drop_rd26 (l : List S26) (i : Nat) (h : i < l.length) : l.drop i = rd_T26 l (i : Int) :: l.drop (i + 1) := by
  rw [List.drop_eq_getElem_cons h]
  congr 1
  simp [rd_T26, List.getD_eq_getElem?_getD, h]
theorem whtU_cases (c : UInt8) (h : whtU c = true) : c = 32 ∨ c = 9 ∨ c = 11 ∨ c = 12 := by
  unfold whtU at h
  simp only [Bool.or_eq_true, beq_iff_eq] at h
  rcases h with ((h | h) | h) | h
  · exact .inl h
  · exact .inr (.inl h)
  · exact .inr (.inr (.inl h))
  · exact .inr (.inr (.inr h))
theorem spliced_l (t : ByteArray) (ht : t.size ≤ 140737488351232) (h : ∀ q, q < t.size → okB (at_ t q)) : ∀ (d i : Nat), t.size - i ≤ d → i ≤ t.size → Ev (fun k => regletlaw02_spliced.l0 k t (i : Int)) true := by
  intro d
  have fin : ∀ i, ¬ i < t.size → Ev (fun k => regletlaw02_spliced.l0 k t (i : Int)) true := by
    intro i hi
    refine Ev.done1 fun k => ?_
    rw [regletlaw02_spliced.l0, if_neg (by omega)]
  induction d with
  | zero => exact fun i h1 _ => fin i (by omega)
  | succ d ih =>
    intro i h1 h2
    by_cases hi : i < t.size
    · have hw := w64_1 t ht i 1 (by omega) (by omega)
      refine Ev.steps1 (fun k => ?_) (ih (i + 1) (by omega) (by omega))
      rw [regletlaw02_spliced.l0, if_pos (by omega), if_pos (by omega), btA, show wrap64 ((i : Int) + 1) = ((i + 1 : Nat) : Int) from hw]
      rcases h i hi with h3 | h3 | h3 | h3 | h3
      · rcases whtU_cases _ h3 with h4 | h4 | h4 | h4 <;> rw [h4] <;> rfl
      all_goals (rw [h3]; rfl)
    · exact fin i hi
theorem spliced_f (s : ByteArray) (p a : Nat) (hs : s.size ≤ 65536) (h1 : p ≤ a) (h2 : a ≤ s.size) (h : ∀ q, p ≤ q → q < a → okB (at_ s q)) : Ev (fun k => regletlaw02_spliced.f k (s.extract p a)) true := by
  have hz : (s.extract p a).size = a - p := by rw [← L_length, L_extract, List.length_take, List.length_drop, L_length]; omega
  refine spliced_l (s.extract p a) (by omega) (fun q hq => ?_) _ 0 (Nat.le_refl _) (Nat.zero_le _)
  have : at_ (s.extract p a) q = at_ s (p + q) := by
    unfold at_
    rw [L_extract]
    simp [List.getD_eq_getElem?_getD, show q < a - p by omega]
  rw [this]
  exact h _ (by omega) (by omega)
theorem same_bytes (s : ByteArray) (cs : List S55) (A E i m : Nat) (hE : E ≤ s.size) (he : E - A = m + 1) (hi : i + (m + 1) ≤ cs.length)
    (h : ∀ k, k < m + 1 → at_ s (A + k) = byteC (rd_T55 cs ((i + k : Nat) : Int))) : ((L s).drop A).take (m + 1) = ((bytesL cs).drop i).take (m + 1) := by
  have hl : (bytesL cs).length = cs.length := by unfold bytesL; rw [List.length_map]
  have hL : (L s).length = s.size := L_length s
  refine List.ext_getElem ?_ ?_
  · rw [List.length_take, List.length_take, List.length_drop, List.length_drop]; omega
  · intro k h1 h2
    rw [List.length_take, List.length_drop] at h1
    have h3 := h k (by omega)
    unfold at_ at h3
    rw [List.getD_eq_getElem?_getD, List.getElem?_eq_getElem (by omega), Option.getD_some] at h3
    rw [List.getElem_take, List.getElem_take, List.getElem_drop, List.getElem_drop, h3]
    unfold bytesL
    rw [List.getElem_map]
    have h4 : rd_T55 cs ((i + k : Nat) : Int) = cs[i + k]'(by omega) := by
      unfold rd_T55
      rw [Int.toNat_natCast, List.getD_eq_getElem?_getD, List.getElem?_eq_getElem (by omega), Option.getD_some]
    rw [h4]; rfl
theorem cov_l0 (q : Nat) (s : ByteArray) (full : List S26) (p idx A E : Nat) (k0 : Int) (T : ByteArray) (sp : Bool) (hx : rd_T26 full (idx : Int) = ⟨k0, T, A, E, sp⟩) (h1 : idx < full.length) (h2 : p ≤ A) (h3 : A < E) (h4 : E ≤ s.size)
    (hw1 : wrap64 ((E : Int) - (A : Int)) = ((E - A : Nat) : Int)) :
    regletlaw02_ScanCovers.l0 (q + 1) s true full (p : Int) (idx : Int) = (regletlaw02_spliced.f q (s.extract p A)).bind fun t521 => (if t521 = true then (regletlaw02_ScanCovers.j2 q s true full (idx : Int) (decide (((E - A : Nat) : Int) < (T.size : Int)))) else (regletlaw02_ScanCovers.j2 q s true full (idx : Int) true)) := by
  have e2 : (rd_T26 full (idx : Int)).f2 = (A : Int) := by rw [hx]
  have e3 : (rd_T26 full (idx : Int)).f3 = (E : Int) := by rw [hx]
  have e1 : (rd_T26 full (idx : Int)).f1 = T := by rw [hx]
  have b1 : (idx : Int) < (full.length : Int) := by omega
  have b2 : (0 : Int) ≤ (idx : Int) := by omega
  have b3 : ¬ (A : Int) < (p : Int) := by omega
  have b4 : ¬ (E : Int) ≤ (A : Int) := by omega
  have b5 : ¬ (E : Int) > (s.size : Int) := by omega
  have b6 : (0 : Int) ≤ (p : Int) := by omega
  have b7 : (p : Int) ≤ (A : Int) := by omega
  have b8 : (A : Int) ≤ (s.size : Int) := by omega
  rw [regletlaw02_ScanCovers.l0, if_pos b1, if_pos b2, e2, e3, e1, if_neg b3, if_neg b4, if_neg b5, if_pos b6, if_pos b7, if_pos b8, Int.toNat_natCast, Int.toNat_natCast, hw1]
theorem cov_j2 (q : Nat) (s : ByteArray) (full : List S26) (idx A E : Nat) (k0 : Int) (T : ByteArray) (sp : Bool) (hx : rd_T26 full (idx : Int) = ⟨k0, T, A, E, sp⟩) (h1 : idx < full.length) (h3 : A ≤ E) (h4 : E ≤ s.size)
    (hw1 : wrap64 ((E : Int) - (A : Int)) = ((E - A : Nat) : Int)) (hw2 : wrap64 ((idx : Int) + 1) = ((idx + 1 : Nat) : Int)) (hb : E - A = T.size → (s.extract A E).toList = T.toList) :
    regletlaw02_ScanCovers.j2 (q + 1) s true full (idx : Int) false = regletlaw02_ScanCovers.l0 q s true full (E : Int) ((idx + 1 : Nat) : Int) := by
  have e2 : (rd_T26 full (idx : Int)).f2 = (A : Int) := by rw [hx]
  have e3 : (rd_T26 full (idx : Int)).f3 = (E : Int) := by rw [hx]
  have e1 : (rd_T26 full (idx : Int)).f1 = T := by rw [hx]
  have b1 : (idx : Int) < (full.length : Int) := by omega
  have b2 : (0 : Int) ≤ (idx : Int) := by omega
  have b6 : (0 : Int) ≤ (A : Int) := by omega
  have b7 : (A : Int) ≤ (E : Int) := by omega
  have b8 : (E : Int) ≤ (s.size : Int) := by omega
  rw [regletlaw02_ScanCovers.j2, if_neg (by decide), if_pos b2, if_pos b1, e2, e3, e1, hw1, hw2]
  by_cases he : E - A = T.size
  · have b9 : ((E - A : Nat) : Int) = (T.size : Int) := by omega
    rw [if_pos b9, if_pos b6, if_pos b7, if_pos b8, Int.toNat_natCast, Int.toNat_natCast, if_pos (hb he)]
  · have b9 : ¬ ((E - A : Nat) : Int) = (T.size : Int) := by omega
    rw [if_neg b9]
theorem cov_step (s : ByteArray) (full : List S26) (p idx A E m : Nat) (k : Int) (T : ByteArray) (sp : Bool) (hx : rd_T26 full (idx : Int) = ⟨k, T, A, E, sp⟩) (hidx : idx < full.length) (h2 : full.length ≤ 65536) (hs : s.size ≤ 65536)
    (g3 : p ≤ A) (g4 : ∀ q, p ≤ q → q < A → okB (at_ s q)) (g5 : A + (m + 1) ≤ E) (g6 : E ≤ s.size) (hT : T.size = m + 1) (hb : E - A = T.size → (s.extract A E).toList = T.toList)
    (q5 : Ev (fun k => regletlaw02_ScanCovers.l0 k s true full (E : Int) ((idx + 1 : Nat) : Int)) true) : Ev (fun k => regletlaw02_ScanCovers.l0 k s true full (p : Int) (idx : Int)) true := by
  have a1 : A < E := by omega
  have a2 : A ≤ s.size := by omega
  have a3 : ¬ ((E - A : Nat) : Int) < (T.size : Int) := by omega
  have hw1 := w64_sub E A (Nat.le_of_lt a1) (Nat.le_trans g6 hs)
  have hw2 := w64_suc idx (Nat.le_trans (Nat.le_of_lt hidx) h2)
  refine Ev.steps1 (fun q => cov_l0 q s full p idx A E k T sp hx hidx g3 a1 g6 hw1) ?_
  refine Ev.bind (spliced_f s p A hs g3 a2 g4) ?_
  refine Ev.congr (fun q => by rw [if_pos rfl, decide_eq_false a3]) ?_
  exact Ev.steps1 (fun q => cov_j2 q s full idx A E k T sp hx hidx (Nat.le_of_lt a1) g6 hw1 hw2 hb) q5
theorem covers2 (s : ByteArray) (hs : s.size ≤ 65536) (cs : List S55) (n i : Nat) (sp : Bool) (line : List ByteArray) (l : List UInt8) (hl : l.length = n) :
    l = (bytesL cs).drop i → i ≤ cs.length → (∀ x ∈ toksF i sp line l, x.2 = 0) → ∀ (p idx : Nat) (full : List S26), Lay s p (cs.drop i) → full.drop idx = (toksF i sp line l).map (fun x => reloc cs x.1) → idx ≤ full.length → full.length ≤ 65536 →
      Ev (fun k => regletlaw02_ScanCovers.l0 k s true full (p : Int) (idx : Int)) true := by
  refine toks_ind (fun i sp line l ts => l = (bytesL cs).drop i → i ≤ cs.length → (∀ x ∈ ts, x.2 = 0) → ∀ (p idx : Nat) (full : List S26), Lay s p (cs.drop i) → full.drop idx = ts.map (fun x => reloc cs x.1) → idx ≤ full.length → full.length ≤ 65536 →
      Ev (fun k => regletlaw02_ScanCovers.l0 k s true full (p : Int) (idx : Int)) true) ?_ ?_ ?_ ?_ n i sp line l hl
  · intro i sp line hl hi hz p idx full hL hf h1 h2
    have hi' : cs.drop i = [] := by
      have := congrArg List.length hl
      rw [List.length_drop] at this
      unfold bytesL at this
      rw [List.length_map] at this
      exact List.drop_eq_nil_of_le (by simp at this; omega)
    rw [hi'] at hL
    have hf' := List.drop_eq_nil_iff.1 (hf.trans rfl)
    refine Ev.steps1 (f := fun k => (regletlaw02_spliced.f k (s.extract p s.size)).bind fun t => if t = true then some true else some false) (fun k => ?_) (Ev.bind (spliced_f s p s.size hs hL.1 (Nat.le_refl _) hL.2) (Ev.now true))
    have := hL.1
    rw [regletlaw02_ScanCovers.l0, if_neg (by omega), if_pos (by omega), if_pos (by omega), Int.toNat_natCast]
  · intro i sp line a r hw ih hl hi hz p idx full hL hf h1 h2
    have hi' : i < cs.length := by
      have := congrArg List.length hl
      rw [List.length_drop] at this
      unfold bytesL at this
      rw [List.length_map] at this
      simp at this; omega
    rw [bytesL_drop cs i hi'] at hl
    obtain ⟨e1, e2⟩ := List.cons.inj hl
    exact ih e2 hi' hz p idx full (whites s cs p i hL hi' (by rw [← e1]; exact hw)) hf h1 h2
  · intro i sp line a r k m hw hfi h0 hm ih hl hi hz p idx full hL hf h1 h2
    have hlen : (a :: r).length = cs.length - i := by
      rw [hl, List.length_drop]; unfold bytesL; rw [List.length_map]
    obtain ⟨m, rfl⟩ : ∃ q, m = q + 1 := ⟨m - 1, by omega⟩
    obtain ⟨A, E, g1, g2, g3, g4, g5, g6, g7, g8⟩ := lay_take s cs m i p (by omega) hL
    have hidx : idx < full.length := by
      rcases Nat.lt_or_ge idx full.length with h | h
      · exact h
      · rw [List.drop_eq_nil_of_le h] at hf; simp at hf
    rw [drop_rd26 full idx hidx, List.map_cons] at hf
    obtain ⟨hx, hf⟩ := List.cons.inj hf
    have hT : (textOf (a :: r) ((m + 1 : Nat) : Int)).size = m + 1 := by
      unfold textOf
      rw [size_mk, Int.toNat_natCast, List.length_take]; omega
    have q1 := ih (by rw [hl, List.drop_drop])
    have q2 := q1 (by omega)
    have q3 := q2 (fun x hx => hz x (List.mem_cons_of_mem _ hx))
    have q4 := q3 E (idx + 1) full g7
    have q5 := q4 hf (by omega) h2
    clear q1 q2 q3 q4 ih hf hz hL hfi
    have hwE : wrap64 (E : Int) = (E : Int) := by unfold wrap64; omega
    obtain ⟨T, hT0⟩ : ∃ T, T = textOf (a :: r) ((m + 1 : Nat) : Int) := ⟨_, rfl⟩
    have htok : (tokOf i sp (a :: r) (k, ((m + 1 : Nat) : Int), 0)).1 = ⟨k, T, i, (i : Int) + ((m + 1 : Nat) : Int), sp⟩ := by rw [hT0]; rfl
    have hx2 : rd_T26 full (idx : Int) = reloc cs ⟨k, T, i, (i : Int) + ((m + 1 : Nat) : Int), sp⟩ := by rw [← htok]; exact hx
    clear hx htok
    have hx' : rd_T26 full (idx : Int) = ⟨k, T, A, E, sp⟩ := by
      rw [hx2]
      unfold reloc
      dsimp only
      rw [show (i : Int) + ((m + 1 : Nat) : Int) - 1 = ((i + m : Nat) : Int) by omega, g1, g2, hwE]
    have hT : T.size = m + 1 := by
      rw [hT0]; unfold textOf
      rw [size_mk, Int.toNat_natCast, List.length_take]; omega
    have hTL : L T = ((bytesL cs).drop i).take (m + 1) := by
      rw [hT0]; unfold textOf
      rw [L_mk, Int.toNat_natCast, hl]
    refine cov_step s full p idx A E m k T sp hx' hidx h2 hs g3 g4 g5 g6 hT (fun he => ?_) q5
    rw [toList_L, toList_L, L_extract, hTL, he, hT]
    rw [hT] at he
    have g9 := g8 ((Nat.sub_eq_iff_eq_add' (Nat.le_trans (Nat.le_add_right _ _) g5)).1 he)
    have hi2 : i + (m + 1) ≤ cs.length := by
      rw [hlen] at hm
      exact (Nat.le_sub_iff_add_le' hi).1 hm
    exact same_bytes s cs A E i m g6 he hi2 g9
  · intro i sp line a r e hw hf he hl hi hz p idx full hL hf' h1 h2
    have : e = 0 := hz _ (List.mem_singleton.2 rfl)
    omega
theorem errT_eq {ts : List (S26 × Int)} (h : errT ts = 0) : ∀ p ∈ ts, p.2 = 0 := by
  intro p hp
  unfold errT at h
  cases hf : ts.find? (fun p => p.2 != 0) with
  | none =>
    have := List.find?_eq_none.1 hf p hp
    simpa using this
  | some q =>
    rw [hf] at h
    have := List.find?_some hf
    have h : q.2 = 0 := h
    rw [h] at this
    exact absurd this (by decide)
end Go.Proofs.Ytonfmnohmigjpaa.P
namespace Go.Proofs.Ytonfmnohmigjpaa.Pure
open Go.RowKit Go.Proofs.Ytonfmnohmigjpaa.P Go.Proofs.YtonfmnohmigjpaaW.PrintWords Go.Proofs.YtonfmnohmigjpaaW.PrintLast
theorem ScanCovers : regletlaw02_ScanCovers.Pure := by
  intro s hs
  have ha : Ev (fun k => regletlaw02_alive.f k) true := Ev.of regletlaw02_alive.mono (k := 9) (by decide +kernel)
  have key : Ev (fun k => regletlaw02_ScanCovers.f k s) true := by
    unfold regletlaw02_ScanCovers.f
    refine Ev.bind ha ?_
    unfold scan_Scan.f
    simp only [Option.bind_some]
    by_cases h1 : checkR (L s) = 0
    · by_cases h2 : errT (toksR (L s)) = 0
      · have e : scanR (L s) = ((toksR (L s)).map (fun p => reloc (charsR (L s)).1 p.1), 0) := by unfold scanR; rw [if_pos h1, if_pos h2]
        rw [e]
        have hsz := checkR_small h1
        have hcs : (charsR (L s)).1 = charsOf (piecesF 0 (L s)) := by unfold charsR; rw [if_pos h1]
        have hLay := lay_pieces s s.size 0 (by omega) (by omega)
        rw [List.drop_zero, ← hcs] at hLay
        have hlen := charsR_le s
        have hln : (bytesL (charsR (L s)).1).length = (charsR (L s)).1.length := by unfold bytesL; rw [List.length_map]
        have htl := toks_len _ 0 false [] (bytesL (charsR (L s)).1) rfl
        refine Ev.steps1 (f := fun k => regletlaw02_ScanCovers.l0 k s true ((toksR (L s)).map (fun p => reloc (charsR (L s)).1 p.1)) ((0 : Nat) : Int) ((0 : Nat) : Int)) (fun k => ?_) ?_
        · rw [if_pos rfl, regletlaw02_ScanCovers.j0, if_neg (by decide)]; rfl
        · refine covers2 s hsz (charsR (L s)).1 _ 0 false [] (bytesL (charsR (L s)).1) rfl rfl (by omega) (errT_eq h2) 0 0 _ hLay rfl (Nat.zero_le _) ?_
          rw [List.length_map]; unfold toksR; omega
      · have e : scanR (L s) = ([], errT (toksR (L s))) := by unfold scanR; rw [if_pos h1, if_neg h2]
        rw [e]
        refine Ev.done1 fun k => ?_
        rw [if_neg h2, regletlaw02_ScanCovers.j0, if_pos rfl, if_pos rfl]; rfl
    · have e : scanR (L s) = ([], checkR (L s)) := by unfold scanR; rw [if_neg h1]
      rw [e]
      refine Ev.done1 fun k => ?_
      rw [if_neg h1, regletlaw02_ScanCovers.j0, if_pos rfl, if_pos rfl]; rfl
  obtain ⟨K, hK⟩ := key
  exact ⟨K, hK K (Nat.le_refl _)⟩
end Go.Proofs.Ytonfmnohmigjpaa.Pure
