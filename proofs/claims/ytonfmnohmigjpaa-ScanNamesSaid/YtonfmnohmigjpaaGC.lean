-- Written by wip/pr.py (the kit's printer, driven for functions that are proved by hand beside it), and put together by wip/mg.py.
import Derived.Test.YtonfmnohmigjpaaGI
import Derived.Maps.OwnIn
import Derived.Deep.DeepMust
import Derived.Test.YtonfmnohmigjpaaGH
/- The contract of phys.Chars: a text's characters, splices aside. -/
namespace Go.Proofs.Ytonfmnohmigjpaa.P
open Go.RowKit Go.Shelf Go.Proofs.YtonfmnohmigjpaaW.PrintWords Go.Proofs.YtonfmnohmigjpaaW.PrintLast Go.Proofs.YtonfmnohmigjpaaW.PrintMore
attribute [local go_sem] Oper.semAt_some

/-- The pieces that are characters. -/
def charsOf (ps : List (S55 × Bool)) : List S55 := (ps.filter (fun p => !p.2)).map Prod.fst
/-- What Chars answers. -/
def charsR (l : List UInt8) : List S55 × Int := if checkR l = 0 then (charsOf (piecesF 0 l), 0) else ([], checkR l)
def phys_Chars.f (a0 : ByteArray) : Option (List S55 × Int) := some (charsR (L a0))

theorem checkR_small {s : ByteArray} (h : checkR (L s) = 0) : s.size ≤ 65536 := by
  unfold checkR at h
  rw [L_length] at h
  by_cases h1 : s.size > 65536
  · rw [if_pos h1] at h; exact absurd h (by decide)
  · omega
def chL (x : S55) : List Value := [.int .u8 x.f0, .int .i64 x.f1, .int .i64 x.f2]
def chCs (xs : List S55) : List Value := xs.flatMap chL
theorem chCs_length (xs : List S55) : (chCs xs).length = xs.length * 3 := by
  unfold chCs
  induction xs with
  | nil => rfl
  | cons x xs ih => rw [List.flatMap_cons, List.length_append, ih, List.length_cons]; simp [chL]; omega
theorem chCs_snoc (xs : List S55) (x : S55) : chCs (xs ++ [x]) = chCs xs ++ chL x := by simp [chCs]
theorem reps55 (w : World) (base : Nat) (ok : Nat → Prop) (xs : List S55) : Reps (k55.M w base ok) 3 xs (chCs xs) := by
  induction xs with
  | nil => exact Reps.none _ _
  | cons x xs ih =>
    have h1 : Reps (k55.M w base ok) 3 [x] (chL x) := Reps.snoc (Reps.none _ 3) (k55_mkM _ _ _ x) rfl
    exact Kd.reps_append h1 ih
theorem R55_of {w : World} {base : Nat} {v : Value} {xs : List S55} (h : w.ownsRow base 55 3 v xs.length (chCs xs)) : Kd.R k55 55 w base (fun _ => True) v xs :=
  ⟨fun _ _ => trivial, chCs xs, h, reps55 _ _ _ _⟩
theorem charsOf_hit (pre : List (S55 × Bool)) (x : S55) : charsOf (pre ++ [(x, false)]) = charsOf pre ++ [x] := by simp [charsOf]
theorem charsOf_miss (pre : List (S55 × Bool)) (x : S55) : charsOf (pre ++ [(x, true)]) = charsOf pre := by simp [charsOf]
theorem charsOf_le (pre : List (S55 × Bool)) : (charsOf pre).length ≤ pre.length := by
  unfold charsOf; rw [List.length_map]; exact List.length_filter_le _ _
theorem piecesF_le (i : Nat) (l : List UInt8) : (piecesF i l).length ≤ l.length := by
  induction h : l.length using Nat.strongRecOn generalizing i l with
  | _ n ih =>
    cases l with
    | nil => simp [piecesF_nil]
    | cons a r =>
      have h1 := lenP_le a r
      have h2 := ih ((a :: r).drop (lenP (a :: r))).length (by rw [List.length_drop]; omega) (i + lenP (a :: r)) _ rfl
      rw [piecesF_cons, List.length_cons]
      rw [List.length_drop] at h2
      omega

set_option maxHeartbeats 1000000 in
set_option maxRecDepth 100000 in
theorem chars_main (s : ByteArray) (hc : checkR (L s) = 0) (w : World) :
    Calls Try.prog 41 #[.string s] w fun e w' => ∃ v : Value, e = .returned (.tuple #[v, .int .i64 0]) ∧ Kd.R k55 55 w' w.heap.size (fun _ => True) v (charsOf (piecesF 0 (L s))) ∧ Below w.heap.size w w' := by
  have HSM := Aside0.mk (checkR_small hc)
  have HC : Aside0 (phys_Check.f s = some 0) := ⟨by unfold phys_Check.f; rw [hc]⟩
  clear hc
  refine (callsIn_wide (n := 4)).1 ?_
  refine callsIn_of_wp_marks Try.func41 rfl trivial ?_ rfl
  simp only [Try.ntmps41, List.size_toArray, List.length_cons, List.length_nil, Nat.reduceAdd, Nat.reduceSub, Array.replicate_succ, Array.replicate_zero, List.push_toArray, List.append_toArray, List.nil_append, List.cons_append]
  gi_wp2_with (refine ⟨trivial, ?_⟩; gi_at_call 47; refine (callsIn_wide.2 (phys_Check.calls s 0 _ HC.out)).mono ?_; rintro e w1 ⟨rfl, hB1⟩)
  have HSZ : Aside0 (s.size ≤ 140737488351232) := ⟨by have := HSM.out; omega⟩
  have HPL : Aside0 ((piecesF 0 (L s)).length ≤ 65536) := ⟨by have := HSM.out; have := piecesF_le 0 (L s); rw [L_length] at this; omega⟩
  have HB1 := Aside0.mk hB1
  have hsz1 := hB1.size
  clear hB1
  gi_wp2_with (refine ⟨trivial, ?_⟩; gi_at_call 84; refine (pieces_in 3 s _).mono ?_; rintro e w2 ⟨rfl, rfl⟩)
  obtain ⟨i0, hi, hz0, hz1, hz2⟩ := info_parts info55
  have bO := Boxed.new w1 51 (.slice none 0 0)
  have bP := Boxed.new (w1.alloc (.cells #[.slice none 0 0] 51)) 9 (.string s)
  rw [World.size_alloc] at bP
  have hB0 : Below w.heap.size w ((w1.alloc (.cells #[.slice none 0 0] 51)).alloc (.cells #[.string s] 9)) := below_alloc (below_alloc HB1.out _) _
  have hz0' : ((w1.alloc (.cells #[.slice none 0 0] 51)).alloc (.cells #[.string s] 9)).heap.size = w1.heap.size + 2 := by simp
  refine wpIn_rangeFunc_ownH rfl (by omega) (gf := 102) (lb := #[.pointer (some ⟨w1.heap.size + 1, 0, none⟩)]) rfl trivial (enters_of Try.func102 (by kernel_rfl) rfl)
    (pieces_stops 3 (by omega) (w1.heap.size + 1) s HSZ.out _ (by rw [hz0']; omega) bP.cell) (fun h k => KpB.t h k) (fun W l o o' h1 h2 h3 h4 => KpB.b (by rw [hz0']; omega) W l o o' h1 h2 h3 h4) (Below.refl _ _) (fun _ => rfl)
    (fun pre W => ((∃ v, Boxed W w1.heap.size 51 v ∧ W.ownsRow w.heap.size 55 3 v (charsOf pre).length (chCs (charsOf pre)) ∧ True) ∧ Boxed W (w1.heap.size + 1) 9 (.string s)) ∧ Below w.heap.size w W)
    (fun _ _ _ => False)
    (OwnFrom.and (OwnFrom.and (Own.from (holdsRow_own w.heap.size w1.heap.size 51 55 3 (fun pre => (charsOf pre).length) (fun pre => chCs (charsOf pre)) (fun _ _ => True)) _) (Own.from (boxed_own _ _ _) _)) (ownFrom_below (Nat.le_refl _) (by rw [hz0']; omega)))
    (fun _ _ _ _ _ hs _ _ => hs)
    ⟨⟨⟨_, bO.alloc _, World.ownsRow_nil _ _ _ _, trivial⟩, bP⟩, hB0⟩
    (fun x a' W => ∃ Bx, w1.heap.size + 1 < Bx ∧ Blk W Bx (chCells x.1) 55 ∧ a' = { tmps := #[.string s, undef, .slice none 0 0, .int .i64 0, .int .i64 0, .pointer (some ⟨w1.heap.size, 0, none⟩), .pointer (some ⟨Bx, 0, none⟩), .bool x.2, .string s, .int .i64 0, .int .i64 0, .bool false, undef, .string s, .func (.func 102) #[] #[.pointer (some ⟨w1.heap.size + 1, 0, none⟩)], .agg (chCells x.1), .bool x.2, undef, undef, undef, undef, undef, undef, undef], defers := [] })
    (fun x a' _ X Y row hs hg hr => by obtain ⟨Bx, h1, h2, h3⟩ := hs; exact ⟨Bx, h1, blk_own (β := Unit) Bx _ _ () X Y row h2 hg (fun r e => (hr r e).2), h3⟩)
    ?assign ?body ?done ?stop
  case assign =>
    rintro l pre x W K ⟨⟨⟨v, bO1, hr1, _⟩, bP1⟩, hB1⟩ hK
    dsimp only [encP]
    gi_wp2
    exact hK _ _ ((KeepsOthers.alloc _ _).from _) (Below.heap_alloc W _ _ bP1.lt) ⟨⟨⟨v, bO1.alloc _, hr1.alloc _, trivial⟩, bP1.alloc _⟩, below_alloc hB1 _⟩ ⟨W.heap.size, bP1.lt, World.alloc_heap_new W _, rfl⟩
  case body =>
    rintro l pre ⟨⟨b, p, n⟩, z⟩ a' W hl ⟨r, hr⟩ ⟨⟨⟨v, bO1, hr1, _⟩, bP1⟩, hB1⟩ ⟨Bx, hBx, bX, rfl⟩ hlt
    have cO := bO1.cell
    have x0 : W.cell? ⟨Bx, 0, none⟩ = some (.int .u8 b) := bX.cell 0
    have x1 : W.cell? ⟨Bx, 1, none⟩ = some (.int .i64 p) := bX.cell 1
    have x2 : W.cell? ⟨Bx, 2, none⟩ = some (.int .i64 n) := bX.cell 2
    have hcl : (charsOf pre).length ≤ 65536 := by
      have h1 := charsOf_le pre
      have h2 := HPL.out
      omega
    cases z with
    | true =>
      gi_wp2
      exact ⟨KeepsFrom.refl _ _, rfl, ⟨⟨v, bO1, by rw [charsOf_miss]; exact hr1⟩, bP1⟩, hB1⟩
    | false =>
      gi_wp2_with (gi_at_builtin; go_must (refine wpListIn_append_own _ rfl _ _ 51 rfl w.heap.size 55 i0 _ 3 24 Try.underlying51 hi hz0 hz1 hz2 rfl (by decide) _ _ _ rfl (hr1.alloc _) ⟨W.heap.size, 0, none⟩ 1 1 (chL ⟨b, p, n⟩) rfl rfl (cells_new _ _ _) (by simp [chL, Value.oneCell']) (by unfold maxLen; omega) (by omega) (by have := hB1.size; simp; omega) ?_); intro v' w3 hown' hgrow _; obtain ⟨g', cap', rfl⟩ := ownsRow_succ hown'; obtain ⟨hv1, hv2, hr2, hk2, hb2⟩ := bO1.appended (by decide) hr1 hB1.size (by omega) hown' hgrow; have hc1 := hv1.cell; have hf1 := hv1.frozen; have hp3 := (bP1.alloc _).kept hgrow (bP1.not_row (by decide) hr1))
      have hp4 := hp3.other (B' := w1.heap.size) (by omega) (.slice (some ⟨g', 0, none⟩) ((charsOf pre).length + 1) cap')
      exact ⟨hk2.from _, hp4.trans bP1.symm, ⟨⟨_, hv2, by rw [charsOf_hit, chCs_snoc, List.length_append, List.length_singleton]; exact hr2⟩, hp4⟩, hB1.trans hb2⟩
  case done =>
    rintro D ys W hD hys ⟨⟨⟨v, bO2, hr2, _⟩, bP2⟩, hB⟩ hK
    have cO := bO2.cell
    gi_wp2
    refine ⟨by simp, .inl ⟨_, _, rfl, run_takeDeferred hK, ?_⟩⟩
    refine ⟨_, results_tmp2 rfl _ _ _, v, rfl, ?_, hB.trans (belowK_b (w := w) (Nat.le_refl _) W D _ _ (by rw [hz0'] at hD; omega) hK rfl rfl)⟩
    rw [← hys]
    exact R55_of (ownsRow_putObj hr2 _ hK rfl)
  case stop =>
    rintro D c pre W _ _ h _
    exact h.elim
set_option maxHeartbeats 1000000 in
set_option maxRecDepth 100000 in
theorem phys_Chars.calls (a0 : ByteArray) (r1 : List (S55)) (r2 : Int) (w : World) (h : phys_Chars.f a0 = some (r1, r2)) :
    Calls Try.prog 41 #[.string a0] w fun e w' => ∃ v0_ : Value, e = .returned (.tuple #[v0_, .int .i64 r2]) ∧ Kd.R k55 55 w' w.heap.size (fun _ => True) v0_ r1 ∧ Below w.heap.size w w' := by
  have h' := Option.some.inj h
  clear h
  unfold charsR at h'
  by_cases hc : checkR (L a0) = 0
  · rw [if_pos hc] at h'
    obtain ⟨rfl, rfl⟩ := Prod.mk.inj h'
    exact chars_main a0 hc w
  · rw [if_neg hc] at h'
    obtain ⟨rfl, rfl⟩ := Prod.mk.inj h'
    clear h'
    have HC : Aside0 (phys_Check.f a0 = some (checkR (L a0))) := ⟨rfl⟩
    have hcd : (checkR (L a0) != 0) = true := bne_iff_ne.mpr hc
    generalize checkR (L a0) = r at *
    go_enter Try.func41, Try.ntmps41
    go_wp2_with fail
    refine (phys_Check.calls a0 r _ HC.out).mono ?_
    rintro e w1 ⟨rfl, hB1⟩
    go_wp2
    go_ret2
    exact ⟨_, rfl, Kd.R_nil _ _ _ _ _, hB1⟩
end Go.Proofs.Ytonfmnohmigjpaa.P
/- The contract of phys.Logical: a text's logical text. -/
namespace Go.Proofs.Ytonfmnohmigjpaa.P
open Go.RowKit Go.Shelf Go.Proofs.YtonfmnohmigjpaaW.PrintWords Go.Proofs.YtonfmnohmigjpaaW.PrintLast Go.Proofs.YtonfmnohmigjpaaW.PrintMore

/-- The characters' bytes. -/
def bytesL (cs : List S55) : List UInt8 := cs.map (fun c => UInt8.ofNat c.f0.toNat)
/-- What Logical answers. -/
def logR (l : List UInt8) : List UInt8 × Int := (bytesL (charsR l).1, (charsR l).2)
def phys_Logical.f (a0 : ByteArray) : Option (ByteArray × Int) := some (⟨(logR (L a0)).1.toArray⟩, (logR (L a0)).2)

theorem piecesF_byte (i : Nat) (l : List UInt8) : ∀ p ∈ piecesF i l, ∃ b : UInt8, p.1.f0 = (b.toNat : Int) := by
  induction h : l.length using Nat.strongRecOn generalizing i l with
  | _ n ih =>
    cases l with
    | nil => intro p hp; rw [piecesF_nil] at hp; exact absurd hp (by simp)
    | cons a r =>
      have h1 := lenP_le a r
      have h2 := ih ((a :: r).drop (lenP (a :: r))).length (by rw [List.length_drop]; omega) (i + lenP (a :: r)) _ rfl
      intro p hp
      rw [piecesF_cons] at hp
      rcases List.mem_cons.1 hp with rfl | hp
      · exact ⟨_, rfl⟩
      · exact h2 p hp
theorem charsR_byte (l : List UInt8) : ∀ c ∈ (charsR l).1, ∃ b : UInt8, c.f0 = (b.toNat : Int) := by
  unfold charsR
  intro c hc
  split at hc
  · simp only [charsOf] at hc
    obtain ⟨p, hp, rfl⟩ := List.mem_map.1 hc
    exact piecesF_byte _ _ p (List.mem_filter.1 hp).1
  · simp at hc
theorem charsR_le (s : ByteArray) : (charsR (L s)).1.length ≤ 65536 := by
  unfold charsR
  split
  · rename_i h
    have h1 := checkR_small h
    have h2 := charsOf_le (piecesF 0 (L s))
    have h3 := piecesF_le 0 (L s)
    rw [L_length] at h3
    exact Nat.le_trans h2 (Nat.le_trans h3 h1)
  · simp
theorem drop_rd55 (l : List S55) (i : Nat) (h : i < l.length) : l.drop i = rd_T55 l (i : Int) :: l.drop (i + 1) := by
  rw [List.drop_eq_getElem_cons h]
  congr 1
  simp [rd_T55, List.getD_eq_getElem?_getD, h]
theorem rd55_mem (l : List S55) (i : Nat) (h : i < l.length) : rd_T55 l (i : Int) ∈ l := by
  have : rd_T55 l (i : Int) = l[i] := by simp [rd_T55, List.getD_eq_getElem?_getD, h]
  rw [this]; exact List.getElem_mem h
theorem bytesL_cons (c : S55) (r : List S55) : bytesL (c :: r) = UInt8.ofNat c.f0.toNat :: bytesL r := rfl

theorem bld_below {B b : Nat} {bs : List Value} {W W' : World} (h : Bld B b bs W) (hb : Below W.heap.size W W') : Bld B b bs W' := by
  have key : ∀ p, Lib.BuilderAt 102 5 B b p bs W → Lib.BuilderAt 102 5 B b p bs W' := by
    rintro p ⟨hB, v, h1, hr, hne⟩
    exact ⟨hB, v, (hb.block _ (Array.getElem?_eq_some_iff.1 h1).1).trans h1, own_move hr (fun k hk => hb.block k (own_lt hr k hk)), hne⟩
  exact h.imp (key _) (key _)

set_option maxHeartbeats 1000000 in
set_option maxRecDepth 100000 in
theorem logical_main (a0 : ByteArray) (cs : List S55) (r2 : Int) (hf : phys_Chars.f a0 = some (cs, r2)) (hb : ∀ c ∈ cs, ∃ b : UInt8, c.f0 = (b.toNat : Int)) (hl : cs.length ≤ 65536) (w : World) :
    Calls Try.prog 42 #[.string a0] w fun e w' => e = .returned (.tuple #[.string ⟨(bytesL cs).toArray⟩, .int .i64 r2]) ∧ Below w.heap.size w w' := by
  have HF := Aside0.mk hf
  have HBY := Aside0.mk hb
  have HL := Aside0.mk hl
  clear hf hb
  go_enter Try.func42, Try.ntmps42
  go_wp2_with fail
  refine (phys_Chars.calls a0 cs r2 _ HF.out).mono ?_
  rintro e w1 ⟨v, rfl, hR, hB⟩
  obtain ⟨A, c0, hv, hc0, hC⟩ := Kd.R_reads hR
  subst hv
  have HC := Aside0.mk hC
  have HB := Aside0.mk hB
  have hsz := hB.size
  clear hR hC hB
  go_wp2
  go_loopw [16] (fun v16 w' => ∃ (i : Nat) (xs : List UInt8), v16 = .int .i64 i ∧ i ≤ cs.length ∧ xs.length ≤ i ∧ Aside0 (xs ++ bytesL (cs.drop i) = bytesL cs) ∧ Aside0 (Bld w1.heap.size w1.heap.size (Lib.byteCells xs) w') ∧ Aside0 (Below w1.heap.size w1 w')) (fun v16 _ => cs.length - (intOf v16).toNat)
  case atStart => exact ⟨0, [], rfl, Nat.zero_le _, Nat.le_refl _, ⟨by simp⟩, ⟨Lib.fresh_isBuilder 102 5 w1⟩, ⟨below_alloc (Below.refl _ _) _⟩⟩
  case round =>
    obtain ⟨i, xs, rfl, hi, hx, HX, HO, HB2⟩ := hrel
    by_cases hlt : i < cs.length
    · obtain ⟨ad, e1, h0, h1, h2⟩ := at_T55 HC.out (i : Int) (by omega) (by omega)
      cases e1
      have HD := Aside0.mk (drop_rd55 cs i hlt)
      obtain ⟨bb, hbb⟩ := HBY.out _ (rd55_mem cs i hlt)
      generalize rd_T55 cs (i : Int) = t at *
      obtain ⟨x0, x1, x2⟩ := t
      simp only [Int.toNat_natCast] at h0 h1 h2 hbb
      subst hbb
      replace h0 := (HB2.out.cell (World.block_lt_of_cell? w1 _ h0)).trans h0
      replace h1 := (HB2.out.cell (World.block_lt_of_cell? w1 _ h1)).trans h1
      replace h2 := (HB2.out.cell (World.block_lt_of_cell? w1 _ h2)).trans h2
      go_wp2_with fail
      refine (bld_byte w1.heap.size w1.heap.size (Lib.byteCells xs) _ _ (bld_below HO.out (below_alloc (Below.refl _ _) _)) (by rw [Lib.byteCells_length]; omega) (below_alloc HB2.out _).size).mono ?_
      rintro e w2 ⟨rfl, hb1, hw1⟩
      have HO1 := Aside0.mk hb1
      have HB3 := Aside0.mk ((below_alloc HB2.out _).trans hw1)
      clear hb1 hw1
      have HX1 : Aside0 ((xs ++ [bb]) ++ bytesL (cs.drop (i + 1)) = bytesL cs) := ⟨by
        have := HX.out
        rw [HD.out, bytesL_cons] at this
        rw [← this]
        simp⟩
      go_wp2
      go_roundw
      case rel => exact ⟨i + 1, xs ++ [bb], by go_num, by omega, by rw [List.length_append, List.length_singleton]; omega, HX1, ⟨Or.inr (by have := HO1.out; rwa [cells_snoc] at this)⟩, HB3⟩
      case measure => simp [intOf]; omega
    · have hie : i = cs.length := by omega
      subst hie
      have HE : Aside0 (xs = bytesL cs) := ⟨by
        have := HX.out
        rwa [List.drop_eq_nil_of_le (Nat.le_refl _), show bytesL ([] : List S55) = [] from rfl, List.append_nil] at this⟩
      go_wp2_with fail
      refine (Try.Builder_String_any _ _ _ _ HO.out HB2.out.size).mono ?_
      rintro e w2 ⟨rfl, hw2⟩
      have HB3 := Aside0.mk (HB2.out.trans hw2)
      clear hw2
      go_wp2
      go_ret2
      rw [HE.out]
      exact ⟨rfl, HB.out.trans (HB3.out.mono hsz)⟩
theorem phys_Logical.calls (a0 : ByteArray) (r1 : ByteArray) (r2 : Int) (w : World) (h : phys_Logical.f a0 = some (r1, r2)) :
    Calls Try.prog 42 #[.string a0] w fun e w' => e = .returned (.tuple #[.string r1, .int .i64 r2]) ∧ Below w.heap.size w w' := by
  have h' := Option.some.inj h
  clear h
  obtain ⟨rfl, rfl⟩ := Prod.mk.inj h'
  exact logical_main a0 (charsR (L a0)).1 (charsR (L a0)).2 rfl (charsR_byte _) (charsR_le a0) w
end Go.Proofs.Ytonfmnohmigjpaa.P
/- What is spelt has as its logical text what was to be spelt: plain lists. -/
namespace Go.Proofs.Ytonfmnohmigjpaa.P
open Go.RowKit Go.Proofs.YtonfmnohmigjpaaW.PrintWords Go.Proofs.YtonfmnohmigjpaaW.PrintLast Go.Proofs.YtonfmnohmigjpaaW.PrintMore
def spanOf (x : S55) : S70 := ⟨x.f1, wrap64 (x.f1 + x.f2)⟩
/-- The pieces that are splices. -/
def splOf (ps : List (S55 × Bool)) : List S70 := (ps.filter (fun p => p.2)).map (fun p => spanOf p.1)
theorem splN {c : UInt8} {r : List UInt8} (h : triU (c :: r) = none) : isSpl (c :: r) = (decide (c = 92) && r.head? == some 10) := by
  unfold isSpl; rw [oneL_cons, h]; rfl
theorem splS {c d : UInt8} {r : List UInt8} (h : triU (c :: r) = some d) : isSpl (c :: r) = (decide (d = 92) && ((c :: r).drop 3).head? == some 10) := by
  unfold isSpl; rw [oneL_cons, h]; rfl
def spN (l : List UInt8) : Nat := if isSpl l then lenP l else 0
/-- Whether the last piece is a splice. -/
def lastOf : Bool → List (S55 × Bool) → Bool
  | d, [] => d
  | _, p :: ps => lastOf p.2 ps
theorem Ev.shift {α : Type} {g : Nat → Option α} {r : α} (n : Nat) (h : Ev g r) : Ev (fun k => g (k + n)) r := by
  obtain ⟨K, h⟩ := h
  exact ⟨K, fun k hk => h (k + n) (by omega)⟩
theorem lastOf_ne (d d' : Bool) (ps : List (S55 × Bool)) (h : ps ≠ []) : lastOf d ps = lastOf d' ps := by
  cases ps with
  | nil => exact absurd rfl h
  | cons p ps => rfl
/-- A splice ends the text: the last piece is one. -/
theorem ends_last (n : Nat) : ∀ (l : List UInt8) (i : Nat) (N : Nat), l.length = n → N = i + l.length → N ≤ 65536 → (piecesF i l).any (badP N) = lastOf false (piecesF i l) := by
  induction n using Nat.strongRecOn with
  | _ n ih =>
    intro l i N hn hN h6
    cases l with
    | nil => rfl
    | cons a r =>
      have hl := lenP_le a r
      rw [piecesF_cons, List.any_cons]
      have h2 := ih ((a :: r).drop (lenP (a :: r))).length (by rw [List.length_drop]; omega) _ (i + lenP (a :: r)) N rfl (by rw [List.length_drop]; omega) h6
      rw [h2]
      generalize lenP (a :: r) = m at *
      generalize isSpl (a :: r) = z at *
      have hb : badP N (⟨((oneL (a :: r)).1.toNat : Int), i, (m : Int)⟩, z) = (z && decide (i + m = N)) := by
        unfold badP
        rw [show wrap64 ((i : Int) + (m : Int)) = ((i + m : Nat) : Int) by unfold wrap64; omega]
        congr 1
        rw [Bool.eq_iff_iff, beq_iff_eq, decide_eq_true_iff]; omega
      rw [hb]
      by_cases he : i + m = N
      · rw [List.drop_eq_nil_of_le (by omega), piecesF_nil]
        simp [he, lastOf]
      · have hne : (a :: r).drop m ≠ [] := fun e => by have := congrArg List.length e; rw [List.length_drop] at this; simp only [List.length_nil] at this; omega
        obtain ⟨b, t, hbt⟩ := List.exists_cons_of_ne_nil hne
        rw [decide_eq_false he, Bool.and_false, Bool.false_or]
        show _ = lastOf z _
        refine lastOf_ne _ _ _ ?_
        rw [hbt, piecesF_cons]; simp
theorem head_spell (c : UInt8) (r : List UInt8) : ∃ t, spellF (c :: r) = c :: t := by
  unfold spellF; split
  · exact ⟨_, rfl⟩
  · exact ⟨_, rfl⟩
theorem thirdU92 : thirdU 92 = none := by decide
theorem tri_spell (c : UInt8) (r : List UInt8) (h : parts (c :: r) = false) : triU (c :: spellF r) = none := by
  cases r with
  | nil => rfl
  | cons b r =>
    rw [parts_cons] at h
    by_cases hp : parts (b :: r) = true
    · rw [show spellF (b :: r) = b :: 92 :: 10 :: spellF r by rw [spellF, if_pos hp], triU_cons, thirdU92, ite_self]
    · rw [show spellF (b :: r) = b :: spellF r by rw [spellF, if_neg hp]]
      cases r with
      | nil => rfl
      | cons d r =>
        obtain ⟨t, ht⟩ := head_spell d r
        rw [ht, triU_cons]
        by_cases e : c = 63 ∧ b = 63
        · rw [if_pos e]
          rw [if_neg (by rw [e.1]; decide), if_pos e] at h
          exact Option.isNone_iff_eq_none.1 (by rw [Option.isNone_iff_eq_none]; simpa [parts3] using h)
        · rw [if_neg e]
theorem one_none (c : UInt8) (r : List UInt8) (h : triU (c :: r) = none) : oneL (c :: r) = (c, 1) := by rw [oneL_cons, h]; rfl
theorem tri_9210 (c : UInt8) (x : List UInt8) : triU (c :: 92 :: 10 :: x) = none := by
  rw [triU_cons, if_neg (by rintro ⟨_, h⟩; exact absurd h (by decide))]
theorem tri_92 (x : List UInt8) : triU (92 :: 10 :: x) = none := by
  cases x with
  | nil => rfl
  | cons d x => rw [triU_cons, if_neg (by rintro ⟨h, _⟩; exact absurd h (by decide))]
theorem spl_of (c : UInt8) (r : List UInt8) (h : triU (c :: r) = none) : isSpl (c :: r) = (decide (c = 92) && r.head? == some 10) := by
  unfold isSpl; rw [one_none c r h]; rfl
theorem piece_plain (i : Nat) (c : UInt8) (r : List UInt8) (h : triU (c :: r) = none) (hs : isSpl (c :: r) = false) :
    piecesF i (c :: r) = (⟨(c.toNat : Int), i, 1⟩, false) :: piecesF (i + 1) r := by
  have e : lenP (c :: r) = 1 := by unfold lenP; rw [hs, one_none c r h]; rfl
  rw [piecesF_cons, e, hs, one_none c r h]; rfl
theorem piece_spl (i : Nat) (x : List UInt8) : piecesF i (92 :: 10 :: x) = (⟨92, i, 2⟩, true) :: piecesF (i + 2) x := by
  have hs : isSpl (92 :: 10 :: x) = true := by rw [spl_of _ _ (tri_92 x)]; rfl
  have e : lenP (92 :: 10 :: x) = 2 := by unfold lenP; rw [hs, one_none _ _ (tri_92 x)]; rfl
  rw [piecesF_cons, e, hs, one_none _ _ (tri_92 x)]; rfl
theorem pieces_spell (i : Nat) (c : UInt8) (r : List UInt8) :
    piecesF i (spellF (c :: r)) = (⟨(c.toNat : Int), i, 1⟩, false) :: (if parts (c :: r) then (⟨92, ((i + 1 : Nat) : Int), 2⟩, true) :: piecesF (i + 1 + 2) (spellF r) else piecesF (i + 1) (spellF r)) := by
  by_cases hp : parts (c :: r) = true
  · rw [show spellF (c :: r) = c :: 92 :: 10 :: spellF r by rw [spellF, if_pos hp], piece_plain i c _ (tri_9210 _ _) (by rw [spl_of _ _ (tri_9210 _ _)]; simp), piece_spl, if_pos hp]
  · rw [show spellF (c :: r) = c :: spellF r by rw [spellF, if_neg hp], if_neg hp]
    have ht := tri_spell c r (by simpa using hp)
    refine piece_plain i c _ ht ?_
    rw [spl_of _ _ ht]
    rw [Bool.eq_false_iff]
    intro e
    simp only [Bool.and_eq_true, decide_eq_true_eq, beq_iff_eq] at e
    obtain ⟨rfl, e2⟩ := e
    cases r with
    | nil => simp [spellF] at e2
    | cons b r =>
      obtain ⟨t, ht2⟩ := head_spell b r
      rw [ht2] at e2
      simp only [List.head?_cons, Option.some.injEq] at e2
      subst e2
      exact hp (by rw [parts_cons]; rfl)
theorem spell_nil {l : List UInt8} (h : spellF l = []) : l = [] := by
  cases l with
  | nil => rfl
  | cons c r => obtain ⟨t, ht⟩ := head_spell c r; rw [ht] at h; simp at h
theorem back_all (l : List UInt8) (i : Nat) : bytesL (charsOf (piecesF i (spellF l))) = l ∧ (spellF l).length = l.length + 2 * (splOf (piecesF i (spellF l))).length := by
  induction l generalizing i with
  | nil => exact ⟨rfl, rfl⟩
  | cons c r ih =>
    rw [pieces_spell]
    by_cases hp : parts (c :: r) = true
    · rw [if_pos hp]
      have h1 := ih (i + 1 + 2)
      rw [show spellF (c :: r) = c :: 92 :: 10 :: spellF r by rw [spellF, if_pos hp]]
      constructor
      · have := h1.1
        simp only [charsOf, bytesL, List.filter_cons, List.map_cons, Bool.not_false, Bool.not_true, if_true, List.map_map] at *
        simp [this]
      · have := h1.2
        simp only [splOf, List.filter_cons, List.length_cons, if_true] at *
        simp at *
        omega
    · rw [if_neg hp]
      have h1 := ih (i + 1)
      rw [show spellF (c :: r) = c :: spellF r by rw [spellF, if_neg hp]]
      constructor
      · have := h1.1
        simp only [charsOf, bytesL, List.filter_cons, List.map_cons, Bool.not_false, if_true, List.map_map] at *
        simp [this]
      · have := h1.2
        simp only [splOf, List.filter_cons, List.length_cons] at *
        simp at *
        omega
theorem spl_ends (l : List UInt8) (i : Nat) : ∀ p ∈ piecesF i (spellF l), p.2 = true → 0 ≤ p.1.f1 + p.1.f2 ∧ p.1.f1 + p.1.f2 < ((i + (spellF l).length : Nat) : Int) := by
  induction l generalizing i with
  | nil => intro p hp; simp [spellF, piecesF_nil] at hp
  | cons c r ih =>
    rw [pieces_spell]
    intro p hp h2
    by_cases hq : parts (c :: r) = true
    · rw [if_pos hq] at hp
      have hr : r ≠ [] := by rintro rfl; simp [parts] at hq
      have hl : (spellF r).length ≠ 0 := fun e => hr (spell_nil (List.eq_nil_of_length_eq_zero e))
      rw [show spellF (c :: r) = c :: 92 :: 10 :: spellF r by rw [spellF, if_pos hq]]
      simp only [List.length_cons]
      rcases List.mem_cons.1 hp with rfl | hp
      · simp at h2
      · rcases List.mem_cons.1 hp with rfl | hp
        · simp only; omega
        · have := ih _ p hp h2; omega
    · rw [if_neg hq] at hp
      rw [show spellF (c :: r) = c :: spellF r by rw [spellF, if_neg hq]]
      simp only [List.length_cons]
      rcases List.mem_cons.1 hp with rfl | hp
      · simp at h2
      · have := ih _ p hp h2; omega
theorem last_spell (l : List UInt8) : (spellF l).getLast? = l.getLast? := by
  induction l with
  | nil => rfl
  | cons c r ih =>
    cases r with
    | nil => rfl
    | cons b r =>
      have hne : spellF (b :: r) ≠ [] := fun e => absurd (spell_nil e) (by simp)
      obtain ⟨y, ys, hy⟩ := List.exists_cons_of_ne_nil hne
      by_cases hp : parts (c :: b :: r) = true
      · rw [show spellF (c :: b :: r) = c :: 92 :: 10 :: spellF (b :: r) by rw [spellF, if_pos hp], show (c :: b :: r).getLast? = (b :: r).getLast? from List.getLast?_cons_cons, ← ih, hy, List.getLast?_cons_cons, List.getLast?_cons_cons, List.getLast?_cons_cons]
      · rw [show spellF (c :: b :: r) = c :: spellF (b :: r) by rw [spellF, if_neg hp], show (c :: b :: r).getLast? = (b :: r).getLast? from List.getLast?_cons_cons, ← ih, hy, List.getLast?_cons_cons]
theorem getD_last (l : List UInt8) (h : l ≠ []) : l.getLast? = some (l.getD (l.length - 1) 0) := by
  rw [List.getLast?_eq_getElem?, List.getD_eq_getElem?_getD]
  have : l.length - 1 < l.length := by have := List.length_pos_iff.2 h; omega
  simp [this]
theorem check_spell (l : List UInt8) (h1 : (spellF l).length ≤ 65536) (h2 : ¬ (l ≠ [] ∧ l.getD (l.length - 1) 0 ≠ 10)) : checkR (spellF l) = 0 := by
  unfold checkR
  rw [if_neg (by omega)]
  by_cases hn : spellF l = []
  · rw [if_pos hn]
  · rw [if_neg hn]
    have hl : l ≠ [] := by rintro rfl; exact hn rfl
    have e := last_spell l
    rw [getD_last _ hn, getD_last _ hl] at e
    have e2 := Option.some.inj e
    have h3 : l.getD (l.length - 1) 0 = 10 := Classical.byContradiction fun h => h2 ⟨hl, h⟩
    rw [if_neg (by rw [e2, h3]; simp), if_neg]
    rw [List.any_eq_true]
    rintro ⟨p, hp, hb⟩
    unfold badP at hb
    rw [Bool.and_eq_true] at hb
    have h4 := spl_ends l 0 p hp hb.1
    have h5 := beq_iff_eq.1 hb.2
    rw [show wrap64 (p.1.f1 + p.1.f2) = p.1.f1 + p.1.f2 by unfold wrap64; omega] at h5
    omega
end Go.Proofs.Ytonfmnohmigjpaa.P
/- Pieces of a text put behind another one, and of a text with a splice more: plain lists. -/
namespace Go.Proofs.Ytonfmnohmigjpaa.P
open Go.RowKit Go.Proofs.YtonfmnohmigjpaaW.PrintWords Go.Proofs.YtonfmnohmigjpaaW.PrintLast

theorem thirdU10 : thirdU 10 = none := by decide
theorem lenOne {a : UInt8} {r : List UInt8} (h : triU (a :: r) = none) : lenP (a :: r) = if isSpl (a :: r) then 2 else 1 := by
  unfold lenP; rw [oneL_cons, h]; rfl
theorem lenThree {a d : UInt8} {r : List UInt8} (h : triU (a :: r) = some d) : lenP (a :: r) = if isSpl (a :: r) then 4 else 3 := by
  unfold lenP; rw [oneL_cons, h]; rfl
theorem tri_none_len {a : UInt8} {r : List UInt8} (h : lenP (a :: r) ≤ 2) : triU (a :: r) = none := by
  cases e : triU (a :: r) with
  | none => rfl
  | some d => rw [lenThree e] at h; split at h <;> omega
theorem tri_b (a b : UInt8) (y : List UInt8) (hb : b ≠ 63) : triU (a :: b :: y) = none := by
  cases y with
  | nil => rfl
  | cons c y => rw [triU_cons, if_neg (fun e => hb e.2)]
theorem tri_a (a : UInt8) (y : List UInt8) (ha : a ≠ 63) : triU (a :: y) = none := by
  match y with
  | [] => rfl
  | [b] => rfl
  | b :: c :: y => rw [triU_cons, if_neg (fun e => ha e.1)]
theorem tri_c (a b c : UInt8) (y : List UInt8) (hc : thirdU c = none) : triU (a :: b :: c :: y) = none := by
  rw [triU_cons, hc, ite_self]
theorem one_eq {a : UInt8} {r r' : List UInt8} (h : triU (a :: r) = triU (a :: r')) : oneL (a :: r) = oneL (a :: r') := by
  rw [oneL_cons, oneL_cons, h]
/-- The first piece of a text stays, when a splice is put in behind it. -/
theorem head_in (x z y : List UInt8) (hx : x ≠ []) (hb : lenP (x ++ z) ≤ x.length) : oneL (x ++ 92 :: y) = oneL (x ++ z) ∧ isSpl (x ++ 92 :: y) = isSpl (x ++ z) := by
  match x, hx, hb with
  | [a], _, hb =>
    simp only [List.cons_append, List.nil_append, List.length_singleton] at hb ⊢
    have h1 := tri_none_len (show lenP (a :: z) ≤ 2 by omega)
    have h2 := tri_b a 92 y (by decide)
    have h3 : isSpl (a :: z) = false := by
      rw [lenOne h1] at hb
      cases h : isSpl (a :: z) with
      | false => rfl
      | true => rw [h] at hb; simp at hb
    exact ⟨one_eq (h2.trans h1.symm), by rw [h3, splN h2]; simp⟩
  | [a, b], _, hb =>
    simp only [List.cons_append, List.nil_append, List.length_cons, List.length_nil] at hb ⊢
    have h1 := tri_none_len (show lenP (a :: b :: z) ≤ 2 by omega)
    have h2 := tri_c a b 92 y thirdU92
    exact ⟨one_eq (h2.trans h1.symm), by rw [splN h1, splN h2]; simp⟩
  | [a, b, c], _, hb =>
    simp only [List.cons_append, List.nil_append, List.length_cons, List.length_nil] at hb ⊢
    have h3 : triU (a :: b :: c :: 92 :: y) = triU (a :: b :: c :: z) := by rw [triU_cons, triU_cons]
    refine ⟨one_eq h3, ?_⟩
    cases h : triU (a :: b :: c :: z) with
    | none => rw [splN (h3.trans h), splN h]; simp
    | some d =>
      have h4 : isSpl (a :: b :: c :: z) = false := by
        rw [lenThree h] at hb
        cases h : isSpl (a :: b :: c :: z) with
        | false => rfl
        | true => rw [h] at hb; simp at hb
      rw [h4, splS (h3.trans h)]; simp
  | a :: b :: c :: e :: r, _, hb =>
    simp only [List.cons_append] at hb ⊢
    have h3 : triU (a :: b :: c :: e :: (r ++ 92 :: y)) = triU (a :: b :: c :: e :: (r ++ z)) := by rw [triU_cons, triU_cons]
    refine ⟨one_eq h3, ?_⟩
    cases h : triU (a :: b :: c :: e :: (r ++ z)) with
    | none => rw [splN (h3.trans h), splN h]; simp
    | some d => rw [splS (h3.trans h), splS h]; simp
/-- The first piece of a text that ends well stays, when another text is put behind it. -/
theorem head_app (x y : List UInt8) (hx : x ≠ []) (hl : x.getLast? = some 10) : oneL (x ++ y) = oneL x ∧ isSpl (x ++ y) = isSpl x := by
  match x, hx, hl with
  | [a], _, hl =>
    simp only [List.getLast?_singleton, Option.some.injEq] at hl
    subst hl
    have h1 := tri_a 10 ([] : List UInt8) (by decide)
    have h2 := tri_a 10 y (by decide)
    exact ⟨one_eq (h2.trans h1.symm), by rw [splN h1]; exact (splN h2).trans (by simp)⟩
  | [a, b], _, hl =>
    simp only [List.getLast?_cons_cons, List.getLast?_singleton, Option.some.injEq] at hl
    subst hl
    have h1 := tri_b a 10 ([] : List UInt8) (by decide)
    have h2 := tri_b a 10 y (by decide)
    exact ⟨one_eq (h2.trans h1.symm), by rw [splN h1]; exact (splN h2).trans (by simp)⟩
  | [a, b, c], _, hl =>
    simp only [List.getLast?_cons_cons, List.getLast?_singleton, Option.some.injEq] at hl
    subst hl
    have h1 := tri_c a b 10 ([] : List UInt8) thirdU10
    have h2 := tri_c a b 10 y thirdU10
    exact ⟨one_eq (h2.trans h1.symm), by rw [splN h1]; exact (splN h2).trans (by simp)⟩
  | a :: b :: c :: e :: r, _, _ =>
    simp only [List.cons_append]
    have h3 : triU (a :: b :: c :: e :: (r ++ y)) = triU (a :: b :: c :: e :: r) := by rw [triU_cons, triU_cons]
    refine ⟨one_eq h3, ?_⟩
    cases h : triU (a :: b :: c :: e :: r) with
    | none => rw [splN (h3.trans h), splN h]; simp
    | some d => rw [splS (h3.trans h), splS h]; simp
theorem lenP_of {l l' : List UInt8} (h : oneL l = oneL l' ∧ isSpl l = isSpl l') : lenP l = lenP l' := by
  unfold lenP; rw [h.1, h.2]
/-- Pieces, n bytes on. -/
def shP (n : Nat) (p : S55 × Bool) : S55 × Bool := (⟨p.1.f0, p.1.f1 + (n : Int), p.1.f2⟩, p.2)
theorem pieces_shift (n : Nat) : ∀ (m : Nat) (l : List UInt8) (i : Nat), l.length = m → piecesF (i + n) l = (piecesF i l).map (shP n) := by
  intro m
  induction m using Nat.strongRecOn with
  | _ m ih =>
    intro l i hl
    cases l with
    | nil => rw [piecesF_nil, piecesF_nil]; rfl
    | cons a r =>
      have h1 := lenP_le a r
      rw [piecesF_cons, piecesF_cons, List.map_cons, show i + n + lenP (a :: r) = i + lenP (a :: r) + n by omega, ih _ (by rw [List.length_drop, ← hl]; omega) _ _ rfl]
      simp [shP]
theorem getLast_drop (x : List UInt8) (n : Nat) (h : n < x.length) : (x.drop n).getLast? = x.getLast? := by
  rw [List.getLast?_drop, if_neg (by omega)]
theorem pieces_app : ∀ (n : Nat) (x y : List UInt8) (i : Nat), x.length = n → (x ≠ [] → x.getLast? = some 10) → piecesF i (x ++ y) = piecesF i x ++ piecesF (i + x.length) y := by
  intro n
  induction n using Nat.strongRecOn with
  | _ n ih =>
    intro x y i hn hl
    cases x with
    | nil => rw [piecesF_nil]; rfl
    | cons a r =>
      have h := head_app (a :: r) y (by simp) (hl (by simp))
      have h1 := lenP_le a r
      have hp := lenP_of h
      rw [List.cons_append] at h hp
      rw [List.cons_append, piecesF_cons, piecesF_cons, hp, h.1, h.2, List.cons_append]
      congr 1
      rw [← List.cons_append, List.drop_append_of_le_length h1.2, ih _ (by rw [List.length_drop, ← hn]; omega) _ _ _ rfl]
      · rw [List.length_drop, show i + lenP (a :: r) + ((a :: r).length - lenP (a :: r)) = i + (a :: r).length by omega]
      · intro hne
        rw [getLast_drop]
        · exact hl (by simp)
        · rcases Nat.lt_or_ge (lenP (a :: r)) (a :: r).length with h | h
          · exact h
          · exact absurd (List.drop_eq_nil_of_le h) hne
theorem pieces_split : ∀ (ps : List (S55 × Bool)) (l : List UInt8) (i : Nat) (q : S55 × Bool) (qs : List (S55 × Bool)), piecesF i l = ps ++ q :: qs →
    ∃ x z, l = x ++ z ∧ q.1.f1 = ((i + x.length : Nat) : Int) ∧ piecesF (i + x.length) z = q :: qs ∧ ∀ y, piecesF i (x ++ 92 :: y) = ps ++ piecesF (i + x.length) (92 :: y) := by
  intro ps
  induction ps with
  | nil =>
    intro l i q qs h
    refine ⟨[], l, rfl, ?_, h, fun y => rfl⟩
    cases l with
    | nil => rw [piecesF_nil] at h; simp at h
    | cons a r =>
      rw [piecesF_cons] at h
      rw [← (List.cons.inj h).1]; rfl
  | cons p ps ih =>
    intro l i q qs h
    cases l with
    | nil => rw [piecesF_nil] at h; simp at h
    | cons a r =>
      have h1 := lenP_le a r
      rw [piecesF_cons, List.cons_append] at h
      obtain ⟨e1, e2⟩ := List.cons.inj h
      obtain ⟨x, z, g1, g2, g3, g4⟩ := ih _ _ _ _ e2
      have hlen : ((a :: r).take (lenP (a :: r)) ++ x).length = lenP (a :: r) + x.length := by rw [List.length_append, List.length_take]; omega
      have hL : (a :: r).take (lenP (a :: r)) ++ x ++ z = a :: r := by rw [List.append_assoc, ← g1, List.take_append_drop]
      have hne : (a :: r).take (lenP (a :: r)) ++ x ≠ [] := by intro e; rw [e] at hlen; simp at hlen; omega
      refine ⟨(a :: r).take (lenP (a :: r)) ++ x, z, hL.symm, ?_, ?_, ?_⟩
      · rw [hlen, g2]; congr 1; omega
      · rw [hlen, ← Nat.add_assoc]; exact g3
      · intro y
        have hh := head_in _ z y hne (by rw [hL, hlen]; omega)
        rw [hL] at hh
        have hp := lenP_of hh
        rw [hlen, ← Nat.add_assoc]
        obtain ⟨b, w, hbw⟩ := List.exists_cons_of_ne_nil (show (a :: r).take (lenP (a :: r)) ++ x ++ 92 :: y ≠ [] by simp)
        rw [hbw] at hh hp
        rw [hbw, piecesF_cons, hh.1, hh.2, hp, e1, List.cons_append]
        congr 1
        rw [← g4, ← hbw]
        congr 1
        rw [List.append_assoc, List.drop_append_of_le_length (by rw [List.length_take]; omega), List.drop_eq_nil_of_le (by rw [List.length_take]; omega)]
        rfl
theorem pieces_bd (n : Nat) : ∀ (l : List UInt8) (i : Nat), l.length = n → ∀ p ∈ piecesF i l, (i : Int) ≤ p.1.f1 ∧ p.1.f1 < ((i + l.length : Nat) : Int) := by
  induction n using Nat.strongRecOn with
  | _ n ih =>
    intro l i hl p hp
    cases l with
    | nil => simp [piecesF_nil] at hp
    | cons a r =>
      have h1 := lenP_le a r
      rw [piecesF_cons] at hp
      rcases List.mem_cons.1 hp with rfl | hp
      · simp only; omega
      · have h2 := ih _ (by rw [List.length_drop, ← hl]; omega) _ _ rfl p hp
        rw [List.length_drop] at h2
        omega
theorem lastOf_app (d : Bool) (ps : List (S55 × Bool)) (q : S55 × Bool) (qs : List (S55 × Bool)) : lastOf d (ps ++ q :: qs) = lastOf q.2 qs := by
  induction ps generalizing d with
  | nil => rfl
  | cons p ps ih => exact ih _
theorem lastOf_sh (d : Bool) (n : Nat) (ps : List (S55 × Bool)) : lastOf d (ps.map (shP n)) = lastOf d ps := by
  induction ps generalizing d with
  | nil => rfl
  | cons p ps ih => exact ih _
theorem charsOf_app (ps qs : List (S55 × Bool)) : charsOf (ps ++ qs) = charsOf ps ++ charsOf qs := by simp [charsOf]
def shC (n : Nat) (c : S55) : S55 := ⟨c.f0, c.f1 + (n : Int), c.f2⟩
theorem charsOf_sh (n : Nat) (ps : List (S55 × Bool)) : charsOf (ps.map (shP n)) = (charsOf ps).map (shC n) := by
  induction ps with
  | nil => rfl
  | cons p ps ih =>
    obtain ⟨c, b⟩ := p
    simp only [charsOf, List.map_cons, List.filter_cons] at *
    cases b <;> simp [shP, shC] at * <;> exact ih
theorem bytesL_sh (n : Nat) (cs : List S55) : bytesL (cs.map (shC n)) = bytesL cs := by simp [bytesL, shC]
theorem check_iff (l : List UInt8) : checkR l = 0 ↔ l.length ≤ 65536 ∧ (l ≠ [] → l.getLast? = some 10 ∧ lastOf false (piecesF 0 l) = false) := by
  unfold checkR
  by_cases h1 : l.length > 65536
  · rw [if_pos h1]; exact ⟨fun h => absurd h (by decide), fun h => absurd h.1 (by omega)⟩
  · rw [if_neg h1]
    by_cases h2 : l = []
    · rw [if_pos h2]; exact ⟨fun _ => ⟨by omega, fun h => absurd h2 h⟩, fun _ => rfl⟩
    · rw [if_neg h2, getD_last l h2, ends_last _ l 0 l.length rfl (by omega) (by omega)]
      by_cases h3 : l.getD (l.length - 1) 0 = 10
      · rw [if_neg (by simpa using h3)]
        cases h4 : lastOf false (piecesF 0 l) with
        | true => rw [if_pos rfl]; exact ⟨fun h => absurd h (by decide), fun h => absurd (h.2 h2).2 (by decide)⟩
        | false => rw [if_neg (by decide)]; exact ⟨fun _ => ⟨by omega, fun _ => ⟨by rw [h3], rfl⟩⟩, fun _ => rfl⟩
      · rw [if_pos h3]; exact ⟨fun h => absurd h (by decide), fun h => absurd (Option.some.inj (h.2 h2).1) h3⟩
theorem charsOf_split : ∀ (ps : List (S55 × Bool)) (k : Nat) (c : S55) (r : List S55), (charsOf ps).drop k = c :: r → ∃ p1 p2, ps = p1 ++ (c, false) :: p2 := by
  intro ps
  induction ps with
  | nil => intro k c r h; simp [charsOf] at h
  | cons p ps ih =>
    intro k c r h
    obtain ⟨a, b⟩ := p
    cases b with
    | true =>
      obtain ⟨p1, p2, e⟩ := ih k c r (by simpa [charsOf] using h)
      exact ⟨(a, true) :: p1, p2, by rw [e]; rfl⟩
    | false =>
      have h' : (a :: charsOf ps).drop k = c :: r := by simpa [charsOf] using h
      cases k with
      | zero => exact ⟨[], ps, by rw [List.drop_zero] at h'; rw [(List.cons.inj h').1]; rfl⟩
      | succ k =>
        obtain ⟨p1, p2, e⟩ := ih k c r (by simpa using h')
        exact ⟨(a, false) :: p1, p2, by rw [e]; rfl⟩
/-- A splice more, ahead of a character. -/
theorem splice_more (l : List UInt8) (hc : checkR l = 0) (h2 : l.length + 2 ≤ 65536) (k : Nat) (c : S55) (r : List S55) (h : (charsOf (piecesF 0 l)).drop k = c :: r) :
    ∃ n, n ≤ l.length ∧ c.f1 = (n : Int) ∧ checkR (l.take n ++ 92 :: 10 :: l.drop n) = 0 ∧ bytesL (charsOf (piecesF 0 (l.take n ++ 92 :: 10 :: l.drop n))) = bytesL (charsOf (piecesF 0 l)) := by
  obtain ⟨p1, p2, e⟩ := charsOf_split _ _ _ _ h
  obtain ⟨x, z, g1, g2, g3, g4⟩ := pieces_split p1 l 0 _ p2 e
  rw [Nat.zero_add] at g2 g3
  have hz : z ≠ [] := by rintro rfl; rw [piecesF_nil] at g3; simp at g3
  have g5 := g4 (10 :: z)
  rw [Nat.zero_add, piece_spl, pieces_shift 2 _ z _ rfl, g3] at g5
  have hl : l ≠ [] := by rw [g1]; simp [hz]
  obtain ⟨c1, c2⟩ := (check_iff l).1 hc
  obtain ⟨c2, c3⟩ := c2 hl
  refine ⟨x.length, by rw [g1, List.length_append]; omega, g2, ?_, ?_⟩
  · rw [g1, List.take_left, List.drop_left]
    refine (check_iff _).2 ⟨?_, fun _ => ⟨?_, ?_⟩⟩
    · rw [g1, List.length_append] at h2; rw [List.length_append, List.length_cons, List.length_cons]; omega
    · obtain ⟨b, w, rfl⟩ := List.exists_cons_of_ne_nil hz
      rw [g1, List.getLast?_append] at c2
      rw [List.getLast?_append, List.getLast?_cons_cons, List.getLast?_cons_cons]
      exact c2
    · rw [g5, lastOf_app, List.map_cons]
      rw [e, lastOf_app] at c3
      show lastOf false (p2.map (shP 2)) = false
      rw [lastOf_sh]
      exact c3
  · rw [g1, List.take_left, List.drop_left, g5, ← g1, e, charsOf_app, charsOf_app]
    have : charsOf ((⟨92, (x.length : Int), 2⟩, true) :: ((c, false) :: p2).map (shP 2)) = charsOf (((c, false) :: p2).map (shP 2)) := by simp [charsOf]
    rw [this, charsOf_sh]
    unfold bytesL
    rw [List.map_append, List.map_append]
    congr 1
    exact bytesL_sh 2 _
/-- A text behind a text. -/
theorem parts_app (x y : List UInt8) (hx : checkR x = 0) (hy : checkR y = 0) (h2 : x.length + y.length ≤ 65536) :
    checkR (x ++ y) = 0 ∧ charsOf (piecesF 0 (x ++ y)) = charsOf (piecesF 0 x) ++ (charsOf (piecesF 0 y)).map (shC x.length) := by
  obtain ⟨a1, a2⟩ := (check_iff x).1 hx
  obtain ⟨b1, b2⟩ := (check_iff y).1 hy
  have e := pieces_app _ x y 0 rfl (fun h => (a2 h).1)
  rw [Nat.zero_add, show piecesF x.length y = piecesF (0 + x.length) y by rw [Nat.zero_add], pieces_shift x.length _ y 0 rfl] at e
  refine ⟨(check_iff _).2 ⟨by rw [List.length_append]; exact h2, fun hne => ⟨?_, ?_⟩⟩, ?_⟩
  · rw [List.getLast?_append]
    by_cases h : y = []
    · subst h
      rw [List.append_nil] at hne
      rw [(a2 hne).1]; rfl
    · rw [(b2 h).1]; rfl
  · rw [e]
    by_cases h : y = []
    · subst h
      rw [List.append_nil] at hne
      rw [piecesF_nil, List.map_nil, List.append_nil]; exact (a2 hne).2
    · have h3 := (b2 h).2
      obtain ⟨b, w, rfl⟩ := List.exists_cons_of_ne_nil h
      rw [piecesF_cons] at h3 ⊢
      rw [List.map_cons, lastOf_app, lastOf_sh]
      exact h3
  · rw [e, charsOf_app, charsOf_sh]
theorem charsOf_bd (l : List UInt8) : ∀ c ∈ charsOf (piecesF 0 l), 0 ≤ c.f1 ∧ c.f1 < (l.length : Int) := by
  intro c hc
  obtain ⟨p, hp, rfl⟩ := List.mem_map.1 hc
  have := pieces_bd _ l 0 rfl p (List.mem_filter.1 hp).1
  omega
end Go.Proofs.Ytonfmnohmigjpaa.P
