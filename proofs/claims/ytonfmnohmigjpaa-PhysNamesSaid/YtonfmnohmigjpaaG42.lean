/- The contract of phys.Logical: a text's logical text. -/
import Derived.Test.YtonfmnohmigjpaaG41
namespace Go.Proofs.Ytonfmnohmigjpaa.P
open Go.RowKit Go.Shelf Go.Proofs.YtonfmnohmigjpaaW.PrintWords Go.Proofs.YtonfmnohmigjpaaW.PrintLast Go.Proofs.YtonfmnohmigjpaaW.PrintMore

/-- The characters' bytes. -/
def bytesL (cs : List S55) : List UInt8 := cs.map (fun c => UInt8.ofNat c.f0.toNat)
/-- What Logical answers. -/
def logR (l : List UInt8) : List UInt8 × Int := (bytesL (charsR l).1, (charsR l).2)
def phys_Logical.f (a0 : ByteArray) : Option (ByteArray × Int) := some (⟨(logR (L a0)).1.toArray⟩, (logR (L a0)).2)

theorem piecesF_byte (i : Nat) (l : List UInt8) : ∀ p ∈ piecesF i l, ∃ b : UInt8, p.1.f0 = (b.toNat : Int) := by
  induction h : l.length using Nat.strongRecOn generalizing i l with
  | _ n ih =>
    cases l with
    | nil => intro p hp; rw [piecesF_nil] at hp; exact absurd hp (by simp)
    | cons a r =>
      have h1 := lenP_le a r
      have h2 := ih ((a :: r).drop (lenP (a :: r))).length (by rw [List.length_drop]; omega) (i + lenP (a :: r)) _ rfl
      intro p hp
      rw [piecesF_cons] at hp
      rcases List.mem_cons.1 hp with rfl | hp
      · exact ⟨_, rfl⟩
      · exact h2 p hp
theorem charsR_byte (l : List UInt8) : ∀ c ∈ (charsR l).1, ∃ b : UInt8, c.f0 = (b.toNat : Int) := by
  unfold charsR
  intro c hc
  split at hc
  · simp only [charsOf] at hc
    obtain ⟨p, hp, rfl⟩ := List.mem_map.1 hc
    exact piecesF_byte _ _ p (List.mem_filter.1 hp).1
  · simp at hc
theorem charsR_le (s : ByteArray) : (charsR (L s)).1.length ≤ 65536 := by
  unfold charsR
  split
  · rename_i h
    have h1 := checkR_small h
    have h2 := charsOf_le (piecesF 0 (L s))
    have h3 := piecesF_le 0 (L s)
    rw [L_length] at h3
    exact Nat.le_trans h2 (Nat.le_trans h3 h1)
  · simp
theorem drop_rd55 (l : List S55) (i : Nat) (h : i < l.length) : l.drop i = rd_T55 l (i : Int) :: l.drop (i + 1) := by
  rw [List.drop_eq_getElem_cons h]
  congr 1
  simp [rd_T55, List.getD_eq_getElem?_getD, h]
theorem rd55_mem (l : List S55) (i : Nat) (h : i < l.length) : rd_T55 l (i : Int) ∈ l := by
  have : rd_T55 l (i : Int) = l[i] := by simp [rd_T55, List.getD_eq_getElem?_getD, h]
  rw [this]; exact List.getElem_mem h
theorem bytesL_cons (c : S55) (r : List S55) : bytesL (c :: r) = UInt8.ofNat c.f0.toNat :: bytesL r := rfl

theorem bld_below {B b : Nat} {bs : List Value} {W W' : World} (h : Bld B b bs W) (hb : Below W.heap.size W W') : Bld B b bs W' := by
  have key : ∀ p, Lib.BuilderAt 102 5 B b p bs W → Lib.BuilderAt 102 5 B b p bs W' := by
    rintro p ⟨hB, v, h1, hr, hne⟩
    exact ⟨hB, v, (hb.block _ (Array.getElem?_eq_some_iff.1 h1).1).trans h1, own_move hr (fun k hk => hb.block k (own_lt hr k hk)), hne⟩
  exact h.imp (key _) (key _)

set_option maxHeartbeats 1000000 in
set_option maxRecDepth 100000 in
theorem logical_main (a0 : ByteArray) (cs : List S55) (r2 : Int) (hf : phys_Chars.f a0 = some (cs, r2)) (hb : ∀ c ∈ cs, ∃ b : UInt8, c.f0 = (b.toNat : Int)) (hl : cs.length ≤ 65536) (w : World) :
    Calls Try.prog 42 #[.string a0] w fun e w' => e = .returned (.tuple #[.string ⟨(bytesL cs).toArray⟩, .int .i64 r2]) ∧ Below w.heap.size w w' := by
  have HF := Aside0.mk hf
  have HBY := Aside0.mk hb
  have HL := Aside0.mk hl
  clear hf hb
  go_enter Try.func42, Try.ntmps42
  go_wp2_with fail
  refine (phys_Chars.calls a0 cs r2 _ HF.out).mono ?_
  rintro e w1 ⟨v, rfl, hR, hB⟩
  obtain ⟨A, c0, hv, hc0, hC⟩ := Kd.R_reads hR
  subst hv
  have HC := Aside0.mk hC
  have HB := Aside0.mk hB
  have hsz := hB.size
  clear hR hC hB
  go_wp2
  go_loopw [16] (fun v16 w' => ∃ (i : Nat) (xs : List UInt8), v16 = .int .i64 i ∧ i ≤ cs.length ∧ xs.length ≤ i ∧ Aside0 (xs ++ bytesL (cs.drop i) = bytesL cs) ∧ Aside0 (Bld w1.heap.size w1.heap.size (Lib.byteCells xs) w') ∧ Aside0 (Below w1.heap.size w1 w')) (fun v16 _ => cs.length - (intOf v16).toNat)
  case atStart => exact ⟨0, [], rfl, Nat.zero_le _, Nat.le_refl _, ⟨by simp⟩, ⟨Lib.fresh_isBuilder 102 5 w1⟩, ⟨below_alloc (Below.refl _ _) _⟩⟩
  case round =>
    obtain ⟨i, xs, rfl, hi, hx, HX, HO, HB2⟩ := hrel
    by_cases hlt : i < cs.length
    · obtain ⟨ad, e1, h0, h1, h2⟩ := at_T55 HC.out (i : Int) (by omega) (by omega)
      cases e1
      have HD := Aside0.mk (drop_rd55 cs i hlt)
      obtain ⟨bb, hbb⟩ := HBY.out _ (rd55_mem cs i hlt)
      generalize rd_T55 cs (i : Int) = t at *
      obtain ⟨x0, x1, x2⟩ := t
      simp only [Int.toNat_natCast] at h0 h1 h2 hbb
      subst hbb
      replace h0 := (HB2.out.cell (World.block_lt_of_cell? w1 _ h0)).trans h0
      replace h1 := (HB2.out.cell (World.block_lt_of_cell? w1 _ h1)).trans h1
      replace h2 := (HB2.out.cell (World.block_lt_of_cell? w1 _ h2)).trans h2
      go_wp2_with fail
      refine (bld_byte w1.heap.size w1.heap.size (Lib.byteCells xs) _ _ (bld_below HO.out (below_alloc (Below.refl _ _) _)) (by rw [Lib.byteCells_length]; omega) (below_alloc HB2.out _).size).mono ?_
      rintro e w2 ⟨rfl, hb1, hw1⟩
      have HO1 := Aside0.mk hb1
      have HB3 := Aside0.mk ((below_alloc HB2.out _).trans hw1)
      clear hb1 hw1
      have HX1 : Aside0 ((xs ++ [bb]) ++ bytesL (cs.drop (i + 1)) = bytesL cs) := ⟨by
        have := HX.out
        rw [HD.out, bytesL_cons] at this
        rw [← this]
        simp⟩
      go_wp2
      go_roundw
      case rel => exact ⟨i + 1, xs ++ [bb], by go_num, by omega, by rw [List.length_append, List.length_singleton]; omega, HX1, ⟨Or.inr (by have := HO1.out; rwa [cells_snoc] at this)⟩, HB3⟩
      case measure => simp [intOf]; omega
    · have hie : i = cs.length := by omega
      subst hie
      have HE : Aside0 (xs = bytesL cs) := ⟨by
        have := HX.out
        rwa [List.drop_eq_nil_of_le (Nat.le_refl _), show bytesL ([] : List S55) = [] from rfl, List.append_nil] at this⟩
      go_wp2_with fail
      refine (Try.Builder_String_any _ _ _ _ HO.out HB2.out.size).mono ?_
      rintro e w2 ⟨rfl, hw2⟩
      have HB3 := Aside0.mk (HB2.out.trans hw2)
      clear hw2
      go_wp2
      go_ret2
      rw [HE.out]
      exact ⟨rfl, HB.out.trans (HB3.out.mono hsz)⟩
theorem phys_Logical.calls (a0 : ByteArray) (r1 : ByteArray) (r2 : Int) (w : World) (h : phys_Logical.f a0 = some (r1, r2)) :
    Calls Try.prog 42 #[.string a0] w fun e w' => e = .returned (.tuple #[.string r1, .int .i64 r2]) ∧ Below w.heap.size w w' := by
  have h' := Option.some.inj h
  clear h
  obtain ⟨rfl, rfl⟩ := Prod.mk.inj h'
  exact logical_main a0 (charsR (L a0)).1 (charsR (L a0)).2 rfl (charsR_byte _) (charsR_le a0) w
end Go.Proofs.Ytonfmnohmigjpaa.P
