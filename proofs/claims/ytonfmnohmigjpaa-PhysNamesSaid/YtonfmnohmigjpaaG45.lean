/- The contract of phys.Splices: a text's splices. -/
import Derived.Test.YtonfmnohmigjpaaG41
namespace Go.Proofs.Ytonfmnohmigjpaa.P
open Go.RowKit Go.Shelf Go.Proofs.YtonfmnohmigjpaaW.PrintWords Go.Proofs.YtonfmnohmigjpaaW.PrintLast Go.Proofs.YtonfmnohmigjpaaW.PrintMore
attribute [local go_sem] Oper.semAt_some

def spanOf (x : S55) : S70 := ⟨x.f1, wrap64 (x.f1 + x.f2)⟩
/-- The pieces that are splices. -/
def splOf (ps : List (S55 × Bool)) : List S70 := (ps.filter (fun p => p.2)).map (fun p => spanOf p.1)
/-- What Splices answers. -/
def splR (l : List UInt8) : List S70 × Int := if checkR l = 0 then (splOf (piecesF 0 l), 0) else ([], checkR l)
def phys_Splices.f (a0 : ByteArray) : Option (List S70 × Int) := some (splR (L a0))

def spL (x : S70) : List Value := [.int .i64 x.f0, .int .i64 x.f1]
def spCs (xs : List S70) : List Value := xs.flatMap spL
theorem spCs_snoc (xs : List S70) (x : S70) : spCs (xs ++ [x]) = spCs xs ++ spL x := by simp [spCs]
theorem reps70 (w : World) (base : Nat) (ok : Nat → Prop) (xs : List S70) : Reps (k70.M w base ok) 2 xs (spCs xs) := by
  induction xs with
  | nil => exact Reps.none _ _
  | cons x xs ih =>
    have h1 : Reps (k70.M w base ok) 2 [x] (spL x) := Reps.snoc (Reps.none _ 2) (k70_mkM _ _ _ x) rfl
    exact Kd.reps_append h1 ih
theorem R70_of {w : World} {base : Nat} {v : Value} {xs : List S70} (h : w.ownsRow base 70 2 v xs.length (spCs xs)) : Kd.R k70 70 w base (fun _ => True) v xs :=
  ⟨fun _ _ => trivial, spCs xs, h, reps70 _ _ _ _⟩
theorem splOf_hit (pre : List (S55 × Bool)) (x : S55) : splOf (pre ++ [(x, true)]) = splOf pre ++ [spanOf x] := by simp [splOf]
theorem splOf_miss (pre : List (S55 × Bool)) (x : S55) : splOf (pre ++ [(x, false)]) = splOf pre := by simp [splOf]
theorem splOf_le (pre : List (S55 × Bool)) : (splOf pre).length ≤ pre.length := by
  unfold splOf; rw [List.length_map]; exact List.length_filter_le _ _

set_option maxHeartbeats 1000000 in
set_option maxRecDepth 100000 in
theorem spl_main (s : ByteArray) (hc : checkR (L s) = 0) (w : World) :
    Calls Try.prog 45 #[.string s] w fun e w' => ∃ v : Value, e = .returned (.tuple #[v, .int .i64 0]) ∧ Kd.R k70 70 w' w.heap.size (fun _ => True) v (splOf (piecesF 0 (L s))) ∧ Below w.heap.size w w' := by
  have HSM := Aside0.mk (checkR_small hc)
  have HC : Aside0 (phys_Check.f s = some 0) := ⟨by unfold phys_Check.f; rw [hc]⟩
  clear hc
  refine (callsIn_wide (n := 4)).1 ?_
  refine callsIn_of_wp_marks Try.func45 rfl trivial ?_ rfl
  simp only [Try.ntmps45, List.size_toArray, List.length_cons, List.length_nil, Nat.reduceAdd, Nat.reduceSub, Array.replicate_succ, Array.replicate_zero, List.push_toArray, List.append_toArray, List.nil_append, List.cons_append]
  gi_wp2_with (refine ⟨trivial, ?_⟩; gi_at_call 47; refine (callsIn_wide.2 (phys_Check.calls s 0 _ HC.out)).mono ?_; rintro e w1 ⟨rfl, hB1⟩)
  have HSZ : Aside0 (s.size ≤ 140737488351232) := ⟨by have := HSM.out; omega⟩
  have HPL : Aside0 ((piecesF 0 (L s)).length ≤ 65536) := ⟨by have := HSM.out; have := piecesF_le 0 (L s); rw [L_length] at this; omega⟩
  have HB1 := Aside0.mk hB1
  have hsz1 := hB1.size
  clear hB1
  gi_wp2_with (refine ⟨trivial, ?_⟩; gi_at_call 84; refine (pieces_in 3 s _).mono ?_; rintro e w2 ⟨rfl, rfl⟩)
  obtain ⟨i0, hi, hz0, hz1, hz2⟩ := info_parts info70
  have bO := Boxed.new w1 60 (.slice none 0 0)
  have bP := Boxed.new (w1.alloc (.cells #[.slice none 0 0] 60)) 9 (.string s)
  rw [World.size_alloc] at bP
  have hB0 : Below w.heap.size w ((w1.alloc (.cells #[.slice none 0 0] 60)).alloc (.cells #[.string s] 9)) := below_alloc (below_alloc HB1.out _) _
  have hz0' : ((w1.alloc (.cells #[.slice none 0 0] 60)).alloc (.cells #[.string s] 9)).heap.size = w1.heap.size + 2 := by simp
  refine wpIn_rangeFunc_ownH rfl (by omega) (gf := 102) (lb := #[.pointer (some ⟨w1.heap.size + 1, 0, none⟩)]) rfl trivial (enters_of Try.func102 (by kernel_rfl) rfl)
    (pieces_stops 3 (by omega) (w1.heap.size + 1) s HSZ.out _ (by rw [hz0']; omega) bP.cell) (fun h k => KpB.t h k) (fun W l o o' h1 h2 h3 h4 => KpB.b (by rw [hz0']; omega) W l o o' h1 h2 h3 h4) (Below.refl _ _) (fun _ => rfl)
    (fun pre W => ((∃ v, Boxed W w1.heap.size 60 v ∧ W.ownsRow w.heap.size 70 2 v (splOf pre).length (spCs (splOf pre)) ∧ True) ∧ Boxed W (w1.heap.size + 1) 9 (.string s)) ∧ Below w.heap.size w W)
    (fun _ _ _ => False)
    (OwnFrom.and (OwnFrom.and (Own.from (holdsRow_own w.heap.size w1.heap.size 60 70 2 (fun pre => (splOf pre).length) (fun pre => spCs (splOf pre)) (fun _ _ => True)) _) (Own.from (boxed_own _ _ _) _)) (ownFrom_below (Nat.le_refl _) (by rw [hz0']; omega)))
    (fun _ _ _ _ _ hs _ _ => hs)
    ⟨⟨⟨_, bO.alloc _, World.ownsRow_nil _ _ _ _, trivial⟩, bP⟩, hB0⟩
    (fun x a' W => ∃ Bx, w1.heap.size + 1 < Bx ∧ Blk W Bx (chCells x.1) 55 ∧ a' = { tmps := #[.string s, undef, .slice none 0 0, .int .i64 0, .int .i64 0, .pointer (some ⟨w1.heap.size, 0, none⟩), .pointer (some ⟨Bx, 0, none⟩), .bool x.2, .string s, .int .i64 0, .int .i64 0, .bool false, undef, .string s, .func (.func 102) #[] #[.pointer (some ⟨w1.heap.size + 1, 0, none⟩)], .agg (chCells x.1), .bool x.2, undef, undef, undef, undef, undef, undef, undef, undef, undef, undef, undef, undef, undef], defers := [] })
    (fun x a' _ X Y row hs hg hr => by obtain ⟨Bx, h1, h2, h3⟩ := hs; exact ⟨Bx, h1, blk_own (β := Unit) Bx _ _ () X Y row h2 hg (fun r e => (hr r e).2), h3⟩)
    ?assign ?body ?done ?stop
  case assign =>
    rintro l pre x W K ⟨⟨⟨v, bO1, hr1, _⟩, bP1⟩, hB1⟩ hK
    dsimp only [encP]
    gi_wp2
    exact hK _ _ ((KeepsOthers.alloc _ _).from _) (Below.heap_alloc W _ _ bP1.lt) ⟨⟨⟨v, bO1.alloc _, hr1.alloc _, trivial⟩, bP1.alloc _⟩, below_alloc hB1 _⟩ ⟨W.heap.size, bP1.lt, World.alloc_heap_new W _, rfl⟩
  case body =>
    rintro l pre ⟨⟨b, p, n⟩, z⟩ a' W hl ⟨r, hr⟩ ⟨⟨⟨v, bO1, hr1, _⟩, bP1⟩, hB1⟩ ⟨Bx, hBx, bX, rfl⟩ hlt
    have cO := bO1.cell
    have x0 : W.cell? ⟨Bx, 0, none⟩ = some (.int .u8 b) := bX.cell 0
    have x1 : W.cell? ⟨Bx, 1, none⟩ = some (.int .i64 p) := bX.cell 1
    have x2 : W.cell? ⟨Bx, 2, none⟩ = some (.int .i64 n) := bX.cell 2
    have hcl : (splOf pre).length ≤ 65536 := by
      have h1 := splOf_le pre
      have h2 := HPL.out
      omega
    cases z with
    | false =>
      gi_wp2
      exact ⟨KeepsFrom.refl _ _, rfl, ⟨⟨v, bO1, by rw [splOf_miss]; exact hr1⟩, bP1⟩, hB1⟩
    | true =>
      gi_wp2_with (gi_at_builtin; go_must (refine wpListIn_append_own _ rfl _ _ 60 rfl w.heap.size 70 i0 _ 2 16 Try.underlying60 hi hz0 hz1 hz2 rfl (by decide) _ _ _ rfl (hr1.alloc _) ⟨W.heap.size, 0, none⟩ 1 1 (spL (spanOf ⟨b, p, n⟩)) rfl rfl (cells_new _ _ _) (by simp [spL, Value.oneCell']) (by unfold maxLen; omega) (by omega) (by have := hB1.size; simp; omega) ?_); intro v' w3 hown' hgrow _; obtain ⟨g', cap', rfl⟩ := ownsRow_succ hown'; obtain ⟨hv1, hv2, hr2, hk2, hb2⟩ := bO1.appended (by decide) hr1 hB1.size (by omega) hown' hgrow; have hc1 := hv1.cell; have hf1 := hv1.frozen; have hp3 := (bP1.alloc _).kept hgrow (bP1.not_row (by decide) hr1))
      have hp4 := hp3.other (B' := w1.heap.size) (by omega) (.slice (some ⟨g', 0, none⟩) ((splOf pre).length + 1) cap')
      exact ⟨hk2.from _, hp4.trans bP1.symm, ⟨⟨_, hv2, by rw [splOf_hit, spCs_snoc, List.length_append, List.length_singleton]; exact hr2⟩, hp4⟩, hB1.trans hb2⟩
  case done =>
    rintro D ys W hD hys ⟨⟨⟨v, bO2, hr2, _⟩, bP2⟩, hB⟩ hK
    have cO := bO2.cell
    gi_wp2
    refine ⟨by simp, .inl ⟨_, _, rfl, run_takeDeferred hK, ?_⟩⟩
    refine ⟨_, results_tmp2 rfl _ _ _, v, rfl, ?_, hB.trans (belowK_b (w := w) (Nat.le_refl _) W D _ _ (by rw [hz0'] at hD; omega) hK rfl rfl)⟩
    rw [← hys]
    exact R70_of (ownsRow_putObj hr2 _ hK rfl)
  case stop =>
    rintro D c pre W _ _ h _
    exact h.elim
set_option maxHeartbeats 1000000 in
set_option maxRecDepth 100000 in
theorem phys_Splices.calls (a0 : ByteArray) (r1 : List (S70)) (r2 : Int) (w : World) (h : phys_Splices.f a0 = some (r1, r2)) :
    Calls Try.prog 45 #[.string a0] w fun e w' => ∃ v0_ : Value, e = .returned (.tuple #[v0_, .int .i64 r2]) ∧ Kd.R k70 70 w' w.heap.size (fun _ => True) v0_ r1 ∧ Below w.heap.size w w' := by
  have h' := Option.some.inj h
  clear h
  unfold splR at h'
  by_cases hc : checkR (L a0) = 0
  · rw [if_pos hc] at h'
    obtain ⟨rfl, rfl⟩ := Prod.mk.inj h'
    exact spl_main a0 hc w
  · rw [if_neg hc] at h'
    obtain ⟨rfl, rfl⟩ := Prod.mk.inj h'
    clear h'
    have HC : Aside0 (phys_Check.f a0 = some (checkR (L a0))) := ⟨rfl⟩
    have hcd : (checkR (L a0) != 0) = true := bne_iff_ne.mpr hc
    generalize checkR (L a0) = r at *
    go_enter Try.func45, Try.ntmps45
    go_wp2_with fail
    refine (phys_Check.calls a0 r _ HC.out).mono ?_
    rintro e w1 ⟨rfl, hB1⟩
    go_wp2
    go_ret2
    exact ⟨_, rfl, Kd.R_nil _ _ _ _ _, hB1⟩
end Go.Proofs.Ytonfmnohmigjpaa.P
