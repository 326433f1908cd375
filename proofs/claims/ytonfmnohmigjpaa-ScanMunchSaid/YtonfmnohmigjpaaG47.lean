/- The contract of phys.Check: whether a text ends well. -/
import Derived.RangeFuncBox
import Derived.Maps.AppendAt
import Derived.Test.YtonfmnohmigjpaaG102
import Derived.Test.YtonfmnohmigjpaaG32
namespace Go.Proofs.Ytonfmnohmigjpaa.P
open Go.RowKit Go.Shelf Go.Proofs.YtonfmnohmigjpaaW.PrintWords Go.Proofs.YtonfmnohmigjpaaW.PrintLast Go.Proofs.YtonfmnohmigjpaaW.PrintMore
attribute [local go_sem] Oper.semAt_some

/-- Is a piece a splice that ends the text? -/
def badP (n : Nat) (p : S55 × Bool) : Bool := p.2 && wrap64 (p.1.f1 + p.1.f2) == (n : Int)
/-- What Check answers. -/
def checkR (l : List UInt8) : Int :=
  if l.length > 65536 then 3 else if l = [] then 0 else if l.getD (l.length - 1) 0 ≠ 10 then 10 else if (piecesF 0 l).any (badP l.length) then 10 else 0
def phys_Check.f (a0 : ByteArray) : Option Int := some (checkR (L a0))

def noBad (n : Nat) (pre : List (S55 × Bool)) : Prop := pre.any (badP n) = false
def hasBad (n : Nat) (pre : List (S55 × Bool)) (c : Code) : Prop := pre.any (badP n) = true ∧ c = .exit 0
theorem noBad_snoc {n : Nat} {pre : List (S55 × Bool)} {x : S55 × Bool} (h : noBad n pre) (hx : badP n x = false) : noBad n (pre ++ [x]) := by unfold noBad at *; simp [h, hx]
theorem hasBad_snoc {n : Nat} {pre : List (S55 × Bool)} {x : S55 × Bool} (hx : badP n x = true) : hasBad n (pre ++ [x]) (.exit 0) := ⟨by simp [hx], rfl⟩
/-- A block of cells, whole. -/
def Blk (W : World) (B : Nat) (cs : Array Value) (t : TypeId) : Prop := W.heap[B]? = some (.cells cs t (0, 0))
theorem blk_own {β : Type} (B : Nat) (cs : Array Value) (t : TypeId) : Own (fun (_ : β) W => Blk W B cs t) := fun _ X _ _ hs hg hrow =>
  (hg.block B (Array.getElem?_eq_some_iff.1 hs).1 (fun e => by obtain ⟨o, ho, hc⟩ := hrow B e.symm; rw [show X.heap[B]? = _ from hs] at ho; cases ho; cases hc)).trans hs
theorem Blk.cell {W : World} {B : Nat} {cs : Array Value} {t : TypeId} (h : Blk W B cs t) (j : Nat) : W.cell? ⟨B, j, none⟩ = cs[j]? := by simp [World.cell?, show W.heap[B]? = _ from h]
def chCells (x : S55) : Array Value := #[.int .u8 x.f0, .int .i64 x.f1, .int .i64 x.f2]

set_option maxHeartbeats 1000000 in
set_option maxRecDepth 100000 in
theorem check_main (s : ByteArray) (hs : s.size ≤ 65536) (hi : s.size - 1 < s.size) (h10 : (s[s.size - 1]'hi) = 10) (r0 : Int) (HR : Aside0 ((if (piecesF 0 (L s)).any (badP s.size) then (10 : Int) else 0) = r0)) (w : World) :
    Calls Try.prog 47 #[.string s] w fun e w' => e = .returned (.int .i64 r0) ∧ Below w.heap.size w w' := by
  have h4 := nonempty_of s (by omega)
  have h11 : (((s[s.size - 1]'hi).toNat : Int) != 10) = false := by rw [h10]; rfl
  clear h10
  refine (callsIn_wide (n := 4)).1 ?_
  refine callsIn_of_wp_marks Try.func47 rfl trivial ?_ rfl
  simp only [Try.ntmps47, List.size_toArray, List.length_cons, List.length_nil, Nat.reduceAdd, Nat.reduceSub, Array.replicate_succ, Array.replicate_zero, List.push_toArray, List.append_toArray, List.nil_append, List.cons_append]
  gi_wp2
  refine (wpIn_wide (n := 4)).2 (wp_scope_straight ((wpIn_wide (n := 4)).1 ?_))
  gi_wp2
  refine wpIn_label ?_
  gi_wp2_with (refine ⟨trivial, ?_⟩; gi_at_call 84; refine (pieces_in 3 s _).mono ?_; rintro e w1 ⟨rfl, rfl⟩)
  have HSZ : Aside0 (s.size ≤ 140737488351232) := ⟨by omega⟩
  have bA := Boxed.new w 9 (.string s)
  have bE := Boxed.new (w.alloc (.cells #[.string s] 9)) 31 (.int .i64 0)
  have bP := Boxed.new ((w.alloc (.cells #[.string s] 9)).alloc (.cells #[.int .i64 0] 31)) 9 (.string s)
  rw [World.size_alloc] at bE
  rw [World.size_alloc, World.size_alloc] at bP
  have hB0 : Below w.heap.size w (((w.alloc (.cells #[.string s] 9)).alloc (.cells #[.int .i64 0] 31)).alloc (.cells #[.string s] 9)) := below_alloc (below_alloc (below_alloc (Below.refl _ _) _) _) _
  have hz0 : (((w.alloc (.cells #[.string s] 9)).alloc (.cells #[.int .i64 0] 31)).alloc (.cells #[.string s] 9)).heap.size = w.heap.size + 3 := by simp
  refine wpIn_rangeFunc_ownH rfl (by omega) (gf := 102) (lb := #[.pointer (some ⟨w.heap.size + 1 + 1, 0, none⟩)]) rfl trivial (enters_of Try.func102 (by kernel_rfl) rfl)
    (pieces_stops 3 (by omega) (w.heap.size + 1 + 1) s HSZ.out _ (by rw [hz0]; omega) bP.cell) (fun h k => KpB.t h k) (fun W l o o' h1 h2 h3 h4 => KpB.b (by rw [hz0]; omega) W l o o' h1 h2 h3 h4) (Below.refl _ _) (fun _ => rfl)
    (fun pre W => ((Boxed W (w.heap.size + 1) 31 (.int .i64 0) ∧ Boxed W w.heap.size 9 (.string s)) ∧ Boxed W (w.heap.size + 1 + 1) 9 (.string s)) ∧ (noBad s.size pre ∧ Below w.heap.size w W))
    (fun c pre W => ((Boxed W (w.heap.size + 1) 31 (.int .i64 10) ∧ Boxed W w.heap.size 9 (.string s)) ∧ Boxed W (w.heap.size + 1 + 1) 9 (.string s)) ∧ (hasBad s.size pre c ∧ Below w.heap.size w W))
    (OwnFrom.and (OwnFrom.and (OwnFrom.and (Own.from (boxed_own _ _ _) _) (Own.from (boxed_own _ _ _) _)) (Own.from (boxed_own _ _ _) _)) (OwnFrom.and (ownFrom_pure _ _) (ownFrom_below (Nat.le_refl _) (by rw [hz0]; omega))))
    (fun c => OwnFrom.and (OwnFrom.and (OwnFrom.and (Own.from (boxed_own _ _ _) _) (Own.from (boxed_own _ _ _) _)) (Own.from (boxed_own _ _ _) _)) (OwnFrom.and (ownFrom_pure _ _) (ownFrom_below (Nat.le_refl _) (by rw [hz0]; omega))))
    ⟨⟨⟨bE.alloc _, (bA.alloc _).alloc _⟩, bP⟩, rfl, hB0⟩
    (fun x a' W => ∃ Bx, w.heap.size + 1 + 1 < Bx ∧ Blk W Bx (chCells x.1) 55 ∧ a' = { tmps := #[.string s, .pointer (some ⟨w.heap.size, 0, none⟩), .int .i64 0, .pointer (some ⟨w.heap.size + 1, 0, none⟩), .pointer (some ⟨Bx, 0, none⟩), .bool x.2, .string s, .int .i64 s.size, .bool (decide ((65536 : Int) < (s.size : Int))), .string s, .bool false, .string s, .string s, .int .i64 s.size, .int .i64 ((s.size : Int) - 1), .int .u8 (s[s.size - 1]'hi).toNat, .bool false, .string s, .func (.func 102) #[] #[.pointer (some ⟨w.heap.size + 1 + 1, 0, none⟩)], .agg (chCells x.1), .bool x.2, undef, undef, undef, undef, undef, undef, undef, undef, undef, undef, undef, undef], defers := [] })
    (fun x a' _ X Y row hs hg hr => by obtain ⟨Bx, h1, h2, h3⟩ := hs; exact ⟨Bx, h1, blk_own (β := Unit) Bx _ _ () X Y row h2 hg (fun r e => (hr r e).2), h3⟩)
    ?assign ?body ?done ?stop
  case assign =>
    rintro l pre x W K ⟨⟨⟨bE1, bA1⟩, bP1⟩, hp1, hB1⟩ hK
    dsimp only [encP]
    gi_wp2
    exact hK _ _ ((KeepsOthers.alloc _ _).from _) (Below.heap_alloc W _ _ bP1.lt) ⟨⟨⟨bE1.alloc _, bA1.alloc _⟩, bP1.alloc _⟩, hp1, below_alloc hB1 _⟩ ⟨W.heap.size, bP1.lt, World.alloc_heap_new W _, rfl⟩
  case body =>
    rintro l pre ⟨⟨b, p, n⟩, z⟩ a' W hl ⟨r, hr⟩ ⟨⟨⟨bE1, bA1⟩, bP1⟩, hp1, hB1⟩ ⟨Bx, hBx, bX, rfl⟩ hlt
    have cA := bA1.cell
    have cE := bE1.cell
    have fE := bE1.frozen
    have x1 : W.cell? ⟨Bx, 1, none⟩ = some (.int .i64 p) := bX.cell 1
    have x2 : W.cell? ⟨Bx, 2, none⟩ = some (.int .i64 n) := bX.cell 2
    cases z with
    | false =>
      gi_wp2
      exact ⟨KeepsFrom.refl _ _, rfl, ⟨⟨bE1, bA1⟩, bP1⟩, noBad_snoc hp1 rfl, hB1⟩
    | true =>
      by_cases hq : wrap64 (p + n) = (s.size : Int)
      · have hq' : (wrap64 (p + n) == (s.size : Int)) = true := beq_iff_eq.mpr hq
        gi_wp2
        exact ⟨(KeepsOthers.setCell _ _ _).from _, ⟨⟨bE1.set _, bA1.other (by omega) _⟩, bP1.other (by omega) _⟩, hasBad_snoc (by unfold badP; rw [hq']; rfl), hB1.setCell (p := ⟨w.heap.size + 1, 0, none⟩) (by simp) _⟩
      · have hq' : (wrap64 (p + n) == (s.size : Int)) = false := beq_eq_false_iff_ne.mpr hq
        gi_wp2
        exact ⟨KeepsFrom.refl _ _, rfl, ⟨⟨bE1, bA1⟩, bP1⟩, noBad_snoc hp1 (by unfold badP; rw [hq']; rfl), hB1⟩
  case done =>
    rintro D ys W hD hys ⟨⟨⟨bE2, bA2⟩, bP2⟩, hp, hB⟩ hK
    have cE := bE2.cell
    have HV : Aside0 ((0 : Int) = r0) := ⟨by
      have := HR.out
      rw [← hys, show ys.any (badP s.size) = false from hp] at this
      exact this⟩
    clear hys
    gi_wp2
    refine ⟨by simp, .inl ⟨_, _, rfl, run_takeDeferred hK, ?_⟩⟩
    refine ⟨_, results_tmp rfl _ _ _, by rw [← HV.out]; rfl, ?_⟩
    exact hB.trans (belowK_b (w := w) (Nat.le_refl _) W D _ _ (by rw [hz0] at hD; omega) hK rfl rfl)
  case stop =>
    rintro D c pre W hD hpre ⟨⟨⟨bE2, bA2⟩, bP2⟩, ⟨hp, rfl⟩, hB⟩ hK
    have cE := bE2.cell
    have HV : Aside0 ((10 : Int) = r0) := ⟨by
      have := HR.out
      obtain ⟨rest, hrest⟩ := hpre
      rw [← hrest, List.any_append, hp] at this
      exact this⟩
    clear hpre
    gi_wp2
    refine ⟨by simp, .inl ⟨_, _, rfl, run_takeDeferred hK, ?_⟩⟩
    refine ⟨_, results_tmp rfl _ _ _, by rw [← HV.out]; rfl, ?_⟩
    exact hB.trans (belowK_b (w := w) (Nat.le_refl _) W D _ _ (by rw [hz0] at hD; omega) hK rfl rfl)
set_option maxHeartbeats 1000000 in
set_option maxRecDepth 100000 in
theorem phys_Check.calls (a0 : ByteArray) (r1 : Int) (w : World) (h : phys_Check.f a0 = some r1) :
    Calls Try.prog 47 #[.string a0] w fun e w' => e = .returned (.int .i64 r1) ∧ Below w.heap.size w w' := by
  have HV := Aside0.mk (Option.some.inj h)
  clear h
  by_cases hs : a0.size > 65536
  · have HR : Aside0 ((3 : Int) = r1) := ⟨by have := HV.out; unfold checkR at this; rwa [if_pos (by rw [L_length]; exact hs)] at this⟩
    clear HV
    go_enter Try.func47, Try.ntmps47
    go_wp2
    refine wp_scope_straight ?_
    go_wp2
    refine ⟨by simp, ?_⟩
    refine ⟨_, results_tmp rfl _ _ _, ?_⟩
    rw [← HR.out]
    exact ⟨rfl, below_alloc (Below.refl _ _) _⟩
  · have e1 : ¬ (L a0).length > 65536 := by rw [L_length]; exact hs
    by_cases hn : a0.size = 0
    · have hl : L a0 = [] := List.eq_nil_of_length_eq_zero (by rw [L_length]; exact hn)
      have HR : Aside0 ((0 : Int) = r1) := ⟨by have := HV.out; unfold checkR at this; rwa [if_neg e1, if_pos hl] at this⟩
      have h4 := empty_of a0 hn
      clear HV hl
      go_enter Try.func47, Try.ntmps47
      go_wp2
      refine wp_scope_straight ?_
      go_wp2
      refine ⟨by simp, ?_⟩
      refine ⟨_, results_tmp rfl _ _ _, ?_⟩
      rw [← HR.out]
      exact ⟨rfl, below_alloc (Below.refl _ _) _⟩
    · have hi : a0.size - 1 < a0.size := by omega
      have hl : ¬ L a0 = [] := fun e => hn (by rw [← L_length, e]; rfl)
      by_cases h10 : (a0[a0.size - 1]'hi) = 10
      · refine check_main a0 (by omega) hi h10 r1 ⟨?_⟩ w
        have := HV.out
        unfold checkR at this
        rw [if_neg e1, if_neg hl, if_neg (fun e => e (by rw [L_length]; exact (get_at a0 _ hi).symm.trans h10)), L_length] at this
        exact this
      · have HR : Aside0 ((10 : Int) = r1) := ⟨by
          have := HV.out
          unfold checkR at this
          rwa [if_neg e1, if_neg hl, if_pos (by rw [L_length]; exact fun e => h10 ((get_at a0 _ hi).trans e))] at this⟩
        have h4 := nonempty_of a0 hn
        have h11 : (((a0[a0.size - 1]'hi).toNat : Int) != 10) = true := by
          rw [bne_iff_ne]
          intro e
          exact h10 (UInt8.toNat_inj.1 (by simp; omega))
        clear h10 HV hl
        go_enter Try.func47, Try.ntmps47
        go_wp2
        refine wp_scope_straight ?_
        go_wp2
        refine ⟨by simp, ?_⟩
        refine ⟨_, results_tmp rfl _ _ _, ?_⟩
        rw [← HR.out]
        exact ⟨rfl, below_alloc (Below.refl _ _) _⟩
end Go.Proofs.Ytonfmnohmigjpaa.P
