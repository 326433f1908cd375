/- The contract of scan.Fuses: whether two tokens must not stand side by side. -/
import Derived.Test.YtonfmnohmigjpaaG51
import Derived.Test.YtonfmnohmigjpaaRg
namespace Go.Proofs.Ytonfmnohmigjpaa.P
open Go.RowKit Go.Shelf Go.Proofs.YtonfmnohmigjpaaW.PrintWords Go.Proofs.YtonfmnohmigjpaaW.PrintLast
attribute [local go_sem] Oper.semAt_some

def scan_Fuses.f (a0 a1 : ByteArray) : Option (Bool × Int) := if a0.size + a1.size ≤ 1000000 then some (fuseT a0 a1) else none
/-- How far the tokens are those that are wanted. -/
def FuP (a b : ByteArray) (ts pre : List (S26 × Int)) : Prop := pre.length ≤ 2 ∧ ∀ rest, pre ++ rest = ts → fuseG [a, b] 0 ts = fuseG [a, b] pre.length rest

theorem ite_off {c : Prop} [Decidable c] {A B : Prop} (h : ¬ c) (hb : B) : if c then A else B := by rw [if_neg h]; exact hb
theorem AbT.blockS {β : Type} {B : Nat} {T : TypeId} (k : Nat) (f : β → Obj) (hk : k < B) : AbT B T (fun (s : β) W => W.heap[k]? = some (f s)) := fun s W W' row hs hg hr =>
  (hg.block k (Array.getElem?_eq_some_iff.1 hs).1 (fun e => by have := (hr k e.symm).1; omega)).trans hs
theorem fu_go {a b : ByteArray} {ts pre : List (S26 × Int)} {x : S26 × Int} (h : FuP a b ts pre) (hx : x.2 = 0) (hn : pre.length < 2) (ht : x.1.f1.toList = (([a, b] : List ByteArray).getD pre.length ByteArray.empty).toList) : FuP a b ts (pre ++ [x]) := by
  refine ⟨by rw [List.length_append, List.length_singleton]; omega, fun rest hr => ?_⟩
  have := h.2 (x :: rest) (by rw [← hr]; simp)
  rw [this, fuseG, if_pos ⟨hx, by omega, ht⟩, List.length_append, List.length_singleton]
theorem fu_stop {a b : ByteArray} {ts pre : List (S26 × Int)} {x : S26 × Int} (h : FuP a b ts pre) (hp : pre ++ [x] <+: ts) (hx : ¬ (x.2 = 0 ∧ pre.length ≠ 2 ∧ x.1.f1.toList = (([a, b] : List ByteArray).getD pre.length ByteArray.empty).toList)) : fuseG [a, b] 0 ts = true := by
  obtain ⟨r, hr⟩ := hp
  rw [h.2 (x :: r) (by rw [← hr]; simp), fuseG, if_neg hx]
theorem fu_end {a b : ByteArray} {ts : List (S26 × Int)} (h : FuP a b ts ts) : fuseG [a, b] 0 ts = decide (ts.length ≠ 2) := by
  rw [h.2 [] (by simp), fuseG]
set_option maxHeartbeats 8000000 in
set_option maxRecDepth 100000 in
theorem fuses_main (s t : ByteArray) (hs : s.size + t.size ≤ 1000000) (k1 k2 : Int) (r1 : Bool) (H1 : Aside0 (oneT s = (k1, true))) (H2 : Aside0 (oneT t = (k2, true))) (HR : Aside0 (fuseG [s, t] 0 (toksF 0 false [] (L (s ++ t))) = r1)) (w : World) (hm : HasMax w) :
    Calls Try.prog 53 #[.string s, .string t] w fun e w' => e = .returned (.tuple #[.bool r1, .int .i64 0]) ∧ Below w.heap.size w w' := by
  have HM := Aside0.mk hm
  clear hm
  have HC1 := Aside0.mk ((callsIn_wide (n := 3)).2 (scan_One.calls s k1 true ((w.alloc (.cells #[.bool false] 4)).alloc (.cells #[.int .i64 0] 31)) (by unfold scan_One.f; rw [if_pos (by omega), H1.out]) (max_below (below_alloc (below_alloc (Below.refl _ _) _) _) HM.out)))
  have HC2 := Aside0.mk (fun (W : World) (hW : HasMax W) => (callsIn_wide (n := 3)).2 (scan_One.calls t k2 true W (by unfold scan_One.f; rw [if_pos (by omega), H2.out]) hW))
  have HST : Aside0 ((s ++ t).size ≤ 1000000) := ⟨by rw [ByteArray.size_append]; exact hs⟩
  have hsz1 : ¬ 9223372036854775807 < s.size + t.size := by omega
  refine (callsIn_wide (n := 4)).1 ?_
  refine callsIn_of_wp_marks Try.func53 rfl trivial ?_ rfl
  simp only [Try.ntmps53, List.size_toArray, List.length_cons, List.length_nil, Nat.reduceAdd, Nat.reduceSub, Array.replicate_succ, Array.replicate_zero, List.push_toArray, List.append_toArray, List.nil_append, List.cons_append]
  gi_wp2_with fail
  refine ⟨trivial, ?_⟩
  refine HC1.out.mono ?_
  rintro e w1 ⟨rfl, hb1⟩
  have HB1 := Aside0.mk hb1
  clear hb1
  gi_wp2_with fail
  refine ⟨trivial, ?_⟩
  have hB01 : Below w.heap.size w ((w.alloc (.cells #[.bool false] 4)).alloc (.cells #[.int .i64 0] 31)) := below_alloc (below_alloc (Below.refl _ _) _) _
  refine (HC2.out _ (max_below (below_step hB01 HB1.out) HM.out)).mono ?_
  rintro e w2 ⟨rfl, hb2⟩
  have bI : Boxed w2 w.heap.size 4 (.bool false) := (hb2.block _ (by have := HB1.out.size; simp at this ⊢; omega)).trans ((HB1.out.block _ (by simp; omega)).trans ((Boxed.new w 4 (.bool false)).alloc _))
  have bE : Boxed w2 (w.heap.size + 1) 31 (.int .i64 0) := (hb2.block _ (by have := HB1.out.size; simp at this ⊢; omega)).trans ((HB1.out.block _ (by simp)).trans (by have := Boxed.new (w.alloc (.cells #[.bool false] 4)) 31 (.int .i64 0); rwa [World.size_alloc] at this))
  have hB2 : Below w.heap.size w w2 := below_step (below_step hB01 HB1.out) hb2
  clear hb2 hB01
  gi_wp2_with fail
  refine ⟨trivial, ?_⟩
  refine (tokens_in 3 (s ++ t) _).mono ?_
  rintro e w3 ⟨rfl, rfl⟩
  gi_wp2_with fail
  have bW : Blk ((((w2.alloc (.cells #[.string s, .string t] 9)).alloc (.cells #[.slice (some ⟨w2.heap.size, 0, none⟩) 2 2] 82)).alloc (.cells #[.int .i64 0] 3)).alloc (.cells #[.string (s ++ t)] 9)) w2.heap.size #[.string s, .string t] 9 :=
    (Below.heap_alloc _ _ _ (by simp; omega)).trans ((Below.heap_alloc _ _ _ (by simp; omega)).trans ((Below.heap_alloc _ _ _ (by simp)).trans (World.alloc_heap_new w2 _)))
  have bX0 := ((Boxed.new (w2.alloc (.cells #[.string s, .string t] 9)) 82 (.slice (some ⟨w2.heap.size, 0, none⟩) 2 2)).alloc (.cells #[.int .i64 0] 3)).alloc (.cells #[.string (s ++ t)] 9)
  have bN := (Boxed.new ((w2.alloc (.cells #[.string s, .string t] 9)).alloc (.cells #[.slice (some ⟨w2.heap.size, 0, none⟩) 2 2] 82)) 3 (.int .i64 0)).alloc (.cells #[.string (s ++ t)] 9)
  have bT := Boxed.new (((w2.alloc (.cells #[.string s, .string t] 9)).alloc (.cells #[.slice (some ⟨w2.heap.size, 0, none⟩) 2 2] 82)).alloc (.cells #[.int .i64 0] 3)) 9 (.string (s ++ t))
  simp only [World.size_alloc] at bX0 bN bT
  have bI0 := (((bI.alloc (.cells #[.string s, .string t] 9)).alloc (.cells #[.slice (some ⟨w2.heap.size, 0, none⟩) 2 2] 82)).alloc (.cells #[.int .i64 0] 3)).alloc (.cells #[.string (s ++ t)] 9)
  have bE0 := (((bE.alloc (.cells #[.string s, .string t] 9)).alloc (.cells #[.slice (some ⟨w2.heap.size, 0, none⟩) 2 2] 82)).alloc (.cells #[.int .i64 0] 3)).alloc (.cells #[.string (s ++ t)] 9)
  have hB0 : Below w.heap.size w ((((w2.alloc (.cells #[.string s, .string t] 9)).alloc (.cells #[.slice (some ⟨w2.heap.size, 0, none⟩) 2 2] 82)).alloc (.cells #[.int .i64 0] 3)).alloc (.cells #[.string (s ++ t)] 9)) := below_alloc (below_alloc (below_alloc (below_alloc hB2 _) _) _) _
  have hz0 : ((((w2.alloc (.cells #[.string s, .string t] 9)).alloc (.cells #[.slice (some ⟨w2.heap.size, 0, none⟩) 2 2] 82)).alloc (.cells #[.int .i64 0] 3)).alloc (.cells #[.string (s ++ t)] 9)).heap.size = w2.heap.size + 4 := by simp
  have hw2 : w.heap.size + 1 < w2.heap.size := bE.lt
  obtain ⟨W0, hW0⟩ : ∃ W0, W0 = ((((w2.alloc (.cells #[.string s, .string t] 9)).alloc (.cells #[.slice (some ⟨w2.heap.size, 0, none⟩) 2 2] 82)).alloc (.cells #[.int .i64 0] 3)).alloc (.cells #[.string (s ++ t)] 9)) := ⟨_, rfl⟩
  rw [← hW0] at bW bX0 bN bT bI0 bE0 hB0 hz0 ⊢
  clear hW0 bI bE hB2
  obtain ⟨ts, hts⟩ : ∃ ts, ts = toksF 0 false [] (L (s ++ t)) := ⟨_, rfl⟩
  rw [← hts] at HR
  refine wpIn_rangeT 9 rfl (by omega) (gf := 105) (lb := #[.pointer (some ⟨w2.heap.size + 1 + 1 + 1, 0, none⟩)]) rfl trivial (enters_of Try.func105 (by kernel_rfl) rfl)
    (tokens_seq 3 (by omega) (w2.heap.size + 1 + 1 + 1) (s ++ t) HST.out W0 bT (max_below hB0 HM.out)) (Below.refl _ _) (fun _ => rfl)
    (fun pre W => FuP s t ts pre ∧ (((Blk W w2.heap.size #[.string s, .string t] 9 ∧ Boxed W (w2.heap.size + 1) 82 (.slice (some ⟨w2.heap.size, 0, none⟩) 2 2)) ∧ (Boxed W (w2.heap.size + 1 + 1) 3 (.int .i64 (pre.length : Nat)) ∧ (Boxed W w.heap.size 4 (.bool false) ∧ Boxed W (w.heap.size + 1) 31 (.int .i64 0)))) ∧ Below w.heap.size w W))
    (fun c pre W => (c = .ret ∧ r1 = true) ∧ ((Boxed W w.heap.size 4 (.bool true) ∧ Boxed W (w.heap.size + 1) 31 (.int .i64 0)) ∧ Below w.heap.size w W))
    (AbT.and (AbT.pure _ _ (fun pre => FuP s t ts pre)) (AbT.and (AbT.and (AbT.and (AbT.block _ _ (by omega)) (AbT.block _ _ (by omega))) (AbT.and (AbT.blockS (w2.heap.size + 1 + 1) (fun pre : List (S26 × Int) => .cells #[.int .i64 (pre.length : Nat)] 3 (0, 0)) (by omega)) (AbT.and (AbT.block _ _ (by omega)) (AbT.block _ _ (by omega))))) (below_ab _ _ _ (by omega) (by omega))))
    (fun c => AbT.and (AbT.pure _ _ (fun _ => c = .ret ∧ r1 = true)) (AbT.and (AbT.and (AbT.block _ _ (by omega)) (AbT.block _ _ (by omega))) (below_ab _ _ _ (by omega) (by omega))))
    ⟨⟨by decide, fun rest h => by rw [List.nil_append] at h; rw [h]; rfl⟩, ⟨⟨bW, bX0⟩, bN, bI0, bE0⟩, hB0⟩
    (fun x W0' a' W => ∃ Bx, w2.heap.size + 1 + 1 < Bx ∧ Blk W Bx (tokB x.1) 26 ∧ a' = { tmps := #[.string s, .string t, undef, undef, .pointer (some ⟨w.heap.size, 0, none⟩), .pointer (some ⟨w.heap.size + 1, 0, none⟩), .int .i64 k1, .bool true, .int .i64 k2, .bool true, .pointer (some ⟨w2.heap.size + 1, 0, none⟩), .pointer (some ⟨w2.heap.size + 1 + 1, 0, none⟩), .pointer (some ⟨Bx, 0, none⟩), .int .i64 x.2, .tuple #[.int .i64 k1, .bool true], .string s, .tuple #[.int .i64 k1, .bool true], .int .i64 k1, .bool true, .bool true, .bool false, .tuple #[.int .i64 k2, .bool true], .string t, .tuple #[.int .i64 k2, .bool true], .int .i64 k2, .bool true, .bool true, .bool false, .string s, .string t, .slice (some ⟨w2.heap.size, 0, none⟩) 2 2, .string s, .string t, .string (s ++ t), .func (.func 105) #[] #[.pointer (some ⟨w2.heap.size + 1 + 1 + 1, 0, none⟩)], .agg (tokB x.1), .int .i64 x.2, undef, undef, undef, undef, undef, undef, undef, undef, undef, undef, undef, undef, undef, undef, undef, undef, undef, undef, undef], defers := [] })
    (fun x W0' a' _ X Y row hs hg hr => by obtain ⟨Bx, g1, g2, g3⟩ := hs; exact ⟨Bx, g1, blk_ab (β := Unit) _ _ _ (by decide) () X Y row g2 hg hr, g3⟩)
    ?assign ?body ?done ?stop
  case assign =>
    rintro l pre x W K ⟨hF, ⟨⟨b0, b1⟩, b2, b3, b4⟩, hB⟩ hK
    dsimp only [encT]
    gi_wp2
    have hlt := b2.lt
    exact hK _ _ ((KeepsOthers.alloc _ _).from _) (KpT.grown (World.grownBy_alloc W _ none) (by simp) (by omega)) ⟨hF, ⟨⟨(Below.heap_alloc _ _ _ (Array.getElem?_eq_some_iff.1 b0).1).trans b0, b1.alloc _⟩, b2.alloc _, b3.alloc _, b4.alloc _⟩, below_alloc hB _⟩ ⟨W.heap.size, hlt, World.alloc_heap_new W _, rfl⟩
  case body =>
    rintro l pre ⟨⟨k, tt, p, q, sp⟩, e⟩ a' Wp W hl ⟨r, hr⟩ ⟨hF, ⟨⟨b0, b1⟩, b2, b3, b4⟩, hB⟩ ⟨Bx, hBx, bX, rfl⟩ hpr hkp
    rw [← hts] at hpr
    have c00 : W.cell? ⟨w2.heap.size, 0, none⟩ = some (.string s) := b0.cell 0
    have c01 : W.cell? ⟨w2.heap.size, 1, none⟩ = some (.string t) := b0.cell 1
    have c1 := b1.cell
    have c2 := b2.cell
    have c3 := b3.cell
    have c4 := b4.cell
    have f2 := b2.frozen
    have f3 := b3.frozen
    have f4 := b4.frozen
    have x1 : W.cell? ⟨Bx, 1, none⟩ = some (.string tt) := bX.cell 1
    have hGo := Aside0.mk (fun h1 h2 h3 => fu_go (x := (⟨k, tt, p, q, sp⟩, e)) hF h1 h2 h3)
    have hSt := Aside0.mk (fun h => HR.out.symm.trans (fu_stop (x := (⟨k, tt, p, q, sp⟩, e)) hF hpr h))
    have hLen := hF.1
    replace hF := Aside0.mk hF
    replace hpr := Aside0.mk hpr
    replace hkp := Aside0.mk hkp
    generalize hn : pre.length = n at *
    replace hn := Aside0.mk hn
    have fin : ∀ (Bq : Nat) (aq : Act), r1 = true → ownPostG Bq (fun _ W' => KpT Wp W') (fun pre W => FuP s t ts pre ∧ (((Blk W w2.heap.size #[.string s, .string t] 9 ∧ Boxed W (w2.heap.size + 1) 82 (.slice (some ⟨w2.heap.size, 0, none⟩) 2 2)) ∧ (Boxed W (w2.heap.size + 1 + 1) 3 (.int .i64 (pre.length : Nat)) ∧ (Boxed W w.heap.size 4 (.bool false) ∧ Boxed W (w.heap.size + 1) 31 (.int .i64 0)))) ∧ Below w.heap.size w W))
        (fun c pre W => (c = .ret ∧ r1 = true) ∧ ((Boxed W w.heap.size 4 (.bool true) ∧ Boxed W (w.heap.size + 1) 31 (.int .i64 0)) ∧ Below w.heap.size w W)) (pre ++ [((⟨k, tt, p, q, sp⟩ : S26), e)]) W .ret aq ((W.drew.setCell ⟨w.heap.size, 0, none⟩ (.bool true)).setCell ⟨w.heap.size + 1, 0, none⟩ (.int .i64 0)) := by
      intro Bq aq hr1
      have d3 : Boxed W.drew w.heap.size 4 (.bool false) := b3
      have d4 : Boxed W.drew (w.heap.size + 1) 31 (.int .i64 0) := b4
      exact ⟨(((KeepsOthers.drew _).trans (KeepsOthers.setCell _ _ _)).trans (KeepsOthers.setCell _ _ _)).from _, ⟨rfl, hr1⟩, ⟨(d3.set _).other (by omega) _, (d4.other (by omega) _).set _⟩, ((below_drew hB).setCell (p := ⟨w.heap.size, 0, none⟩) (Nat.le_refl _) _).setCell (p := ⟨w.heap.size + 1, 0, none⟩) (by show w.heap.size ≤ w.heap.size + 1; omega) _⟩
    have FIN := Aside0.mk fin
    have onF := Aside0.mk (fun (h : FuP s t ts (pre ++ [((⟨k, tt, p, q, sp⟩ : S26), e)])) (m : Nat) (hm : m = n + 1) (Bq : Nat) (aq : Act) => (show ownPostG Bq (fun _ W' => KpT Wp W') (fun pre W => FuP s t ts pre ∧ (((Blk W w2.heap.size #[.string s, .string t] 9 ∧ Boxed W (w2.heap.size + 1) 82 (.slice (some ⟨w2.heap.size, 0, none⟩) 2 2)) ∧ (Boxed W (w2.heap.size + 1 + 1) 3 (.int .i64 (pre.length : Nat)) ∧ (Boxed W w.heap.size 4 (.bool false) ∧ Boxed W (w.heap.size + 1) 31 (.int .i64 0)))) ∧ Below w.heap.size w W))
        (fun c pre W => (c = .ret ∧ r1 = true) ∧ ((Boxed W w.heap.size 4 (.bool true) ∧ Boxed W (w.heap.size + 1) 31 (.int .i64 0)) ∧ Below w.heap.size w W)) (pre ++ [((⟨k, tt, p, q, sp⟩ : S26), e)]) W .normal aq (W.drew.setCell ⟨w2.heap.size + 1 + 1, 0, none⟩ (.int .i64 (m : Nat))) from by
      have e0 : Blk W.drew w2.heap.size #[.string s, .string t] 9 := b0
      have e1 : Boxed W.drew (w2.heap.size + 1) 82 (.slice (some ⟨w2.heap.size, 0, none⟩) 2 2) := b1
      have d2 : Boxed W.drew (w2.heap.size + 1 + 1) 3 (.int .i64 (n : Nat)) := b2
      have d3 : Boxed W.drew w.heap.size 4 (.bool false) := b3
      have d4 : Boxed W.drew (w.heap.size + 1) 31 (.int .i64 0) := b4
      have hln : (pre ++ [((⟨k, tt, p, q, sp⟩ : S26), e)]).length = m := by rw [List.length_append, hn.out, hm]; rfl
      refine ⟨((KeepsOthers.drew _).trans (KeepsOthers.setCell _ _ _)).from _, ?_, h, ⟨⟨(Below.heap_setCell _ _ _ _ (by show w2.heap.size ≠ w2.heap.size + 1 + 1; omega)).trans e0, e1.other (by omega) _⟩, by rw [hln]; exact d2.set _, d3.other (by omega) _, d4.other (by omega) _⟩, (below_drew hB).setCell (p := ⟨w2.heap.size + 1 + 1, 0, none⟩) (by show w.heap.size ≤ w2.heap.size + 1 + 1; omega) _⟩
      intro b hb
      refine (Below.heap_setCell _ _ _ _ ?_).trans (hkp.out b hb)
      rintro rfl
      have d2' : W.heap[w2.heap.size + 1 + 1]? = some (.cells #[.int .i64 (n : Nat)] 3 (0, 0)) := b2
      rcases hb with hb | ⟨o, ho, hst⟩
      · cases hb
      · rw [← hkp.out (w2.heap.size + 1 + 1) (.inr ⟨o, ho, hst⟩), d2'] at ho
        cases ho
        simp [stays] at hst))
    clear fin
    replace hB := Aside0.mk hB
    replace b0 := Aside0.mk b0
    replace b1 := Aside0.mk b1
    replace b2 := Aside0.mk b2
    replace b3 := Aside0.mk b3
    replace b4 := Aside0.mk b4
    by_cases he : e = 0
    · subst he
      have hcase : n = 2 ∨ n = 0 ∨ n = 1 := by omega
      rcases hcase with rfl | rfl | rfl
      · have HV := Aside0.mk (hSt.out (fun h => h.2.1 rfl))
        have c2' : W.cell? ⟨w2.heap.size + 1 + 1, 0, none⟩ = some (.int .i64 2) := c2
        clear c2
        gi_wp2_with fail
        refine region_inv (by kernel_rfl) (fun lm a' w' => ∃ c0 c1 c2 c3 c4 c5 c6 c7 c8 c9 c10 c11 c12 c13 c14 : Bool, lm = #[c0, c1, c2, c3, c4, c5, c6, c7, c8, c9, c10, c11, c12, c13, c14] ∧ a' = { tmps := #[.string s, .string t, undef, undef, .pointer (some ⟨w.heap.size, 0, none⟩), .pointer (some ⟨w.heap.size + 1, 0, none⟩), .int .i64 k1, .bool true, .int .i64 k2, .bool true, .pointer (some ⟨w2.heap.size + 1, 0, none⟩), .pointer (some ⟨w2.heap.size + 1 + 1, 0, none⟩), .pointer (some ⟨Bx, 0, none⟩), .int .i64 0, .tuple #[.int .i64 k1, .bool true], .string s, .tuple #[.int .i64 k1, .bool true], .int .i64 k1, .bool true, .bool true, .bool false, .tuple #[.int .i64 k2, .bool true], .string t, .tuple #[.int .i64 k2, .bool true], .int .i64 k2, .bool true, .bool true, .bool false, .string s, .string t, .slice (some ⟨w2.heap.size, 0, none⟩) 2 2, .string s, .string t, .string (s ++ t), .func (.func 105) #[] #[.pointer (some ⟨w2.heap.size + 1 + 1 + 1, 0, none⟩)], .agg (tokB ⟨k, tt, p, q, sp⟩), .int .i64 0, cond c0 (.int .i64 0) undef, cond c1 (.bool false) undef, cond c2 (.bool false) undef, cond c3 (.int .i64 2) undef, cond c4 (.bool true) undef, cond c5 (.bool true) undef, cond c6 (.bool true) undef, undef, undef, undef, undef, undef, undef, undef, cond c14 (.bool true) undef, undef, undef, undef, undef], defers := [] } ∧ w' = W.drew) ?_ ?_ ?_
        · exact ⟨false, false, false, false, false, false, false, false, false, false, false, false, false, false, false, rfl, rfl, rfl⟩
        · rintro lm a' w' i' ⟨c0, c1, c2, c3, c4, c5, c6, c7, c8, c9, c10, c11, c12, c13, c14, rfl, rfl, rfl⟩ hi'
          obtain ⟨hlt', hop'⟩ := ready_open hi'
          have hd' := ready_deps hi'
          clear hi'
          have hc' : i' = 0 ∨ i' = 1 ∨ i' = 2 ∨ i' = 3 ∨ i' = 4 ∨ i' = 5 ∨ i' = 6 ∨ i' = 7 ∨ i' = 8 ∨ i' = 9 ∨ i' = 10 ∨ i' = 11 ∨ i' = 12 ∨ i' = 13 ∨ i' = 14 := by simp at hlt'; omega
          rcases hc' with rfl | rfl | rfl | rfl | rfl | rfl | rfl | rfl | rfl | rfl | rfl | rfl | rfl | rfl | rfl
          all_goals (replace hd' := hd' _ rfl; simp [Region.binds] at hd' hop'; subst hop'; (repeat (obtain ⟨h_, hd'⟩ := hd'; first | subst h_ | skip)); (try subst hd'); refine wpOpIn_step rfl ?_; intro K' hK'; first | (rw [if_pos (by rfl)]; unfold Oper.wpIn; refine ⟨by simp [Oper.about], ?_⟩; go_simp; exact hK' _ _ ⟨_, _, _, _, _, _, _, _, _, _, _, _, _, _, _, rfl, rfl, rfl⟩) | (refine ite_off (by intro h; exact absurd (show false = true from h) (by decide)) ⟨by simp [Oper.about], ?_⟩; exact hK' _ _ ⟨_, _, _, _, _, _, _, _, _, _, _, _, _, _, _, rfl, rfl, rfl⟩))
        · rintro lm a' w' ⟨c0, c1, c2, c3, c4, c5, c6, c7, c8, c9, c10, c11, c12, c13, c14, rfl, rfl, rfl⟩ hr'
          obtain rfl : c0 = true := by have := ready_none hr' 0 _ rfl (by simp [Region.binds]); simpa using this
          obtain rfl : c1 = true := by have := ready_none hr' 1 _ rfl (by simp [Region.binds]); simpa using this
          obtain rfl : c2 = true := by have := ready_none hr' 2 _ rfl (by simp [Region.binds]); simpa using this
          obtain rfl : c3 = true := by have := ready_none hr' 3 _ rfl (by simp [Region.binds]); simpa using this
          obtain rfl : c4 = true := by have := ready_none hr' 4 _ rfl (by simp [Region.binds]); simpa using this
          obtain rfl : c5 = true := by have := ready_none hr' 5 _ rfl (by simp [Region.binds]); simpa using this
          obtain rfl : c6 = true := by have := ready_none hr' 6 _ rfl (by simp [Region.binds]); simpa using this
          obtain rfl : c7 = true := by have := ready_none hr' 7 _ rfl (by simp [Region.binds]); simpa using this
          obtain rfl : c8 = true := by have := ready_none hr' 8 _ rfl (by simp [Region.binds]); simpa using this
          obtain rfl : c9 = true := by have := ready_none hr' 9 _ rfl (by simp [Region.binds]); simpa using this
          obtain rfl : c10 = true := by have := ready_none hr' 10 _ rfl (by simp [Region.binds]); simpa using this
          obtain rfl : c11 = true := by have := ready_none hr' 11 _ rfl (by simp [Region.binds]); simpa using this
          obtain rfl : c12 = true := by have := ready_none hr' 12 _ rfl (by simp [Region.binds]); simpa using this
          obtain rfl : c13 = true := by have := ready_none hr' 13 _ rfl (by simp [Region.binds]); simpa using this
          obtain rfl : c14 = true := by have := ready_none hr' 14 _ rfl (by simp [Region.binds]); simpa using this
          clear hr'
          dsimp only [cond]
          gi_wp2
          exact FIN.out _ _ HV.out
      · have c2' : W.cell? ⟨w2.heap.size + 1 + 1, 0, none⟩ = some (.int .i64 0) := c2
        clear c2
        by_cases ht : tt = s
        · subst ht
          have HG := Aside0.mk (hGo.out rfl (by omega) rfl)
          gi_wp2_with fail
          refine region_inv (by kernel_rfl) (fun lm a' w' => ∃ c0 c1 c2 c3 c4 c5 c6 c7 c8 c9 c10 c11 c12 c13 c14 : Bool, lm = #[c0, c1, c2, c3, c4, c5, c6, c7, c8, c9, c10, c11, c12, c13, c14] ∧ a' = { tmps := #[.string tt, .string t, undef, undef, .pointer (some ⟨w.heap.size, 0, none⟩), .pointer (some ⟨w.heap.size + 1, 0, none⟩), .int .i64 k1, .bool true, .int .i64 k2, .bool true, .pointer (some ⟨w2.heap.size + 1, 0, none⟩), .pointer (some ⟨w2.heap.size + 1 + 1, 0, none⟩), .pointer (some ⟨Bx, 0, none⟩), .int .i64 0, .tuple #[.int .i64 k1, .bool true], .string tt, .tuple #[.int .i64 k1, .bool true], .int .i64 k1, .bool true, .bool true, .bool false, .tuple #[.int .i64 k2, .bool true], .string t, .tuple #[.int .i64 k2, .bool true], .int .i64 k2, .bool true, .bool true, .bool false, .string tt, .string t, .slice (some ⟨w2.heap.size, 0, none⟩) 2 2, .string tt, .string t, .string (tt ++ t), .func (.func 105) #[] #[.pointer (some ⟨w2.heap.size + 1 + 1 + 1, 0, none⟩)], .agg (tokB ⟨k, tt, p, q, sp⟩), .int .i64 0, cond c0 (.int .i64 0) undef, cond c1 (.bool false) undef, cond c2 (.bool false) undef, cond c3 (.int .i64 0) undef, cond c4 (.bool false) undef, cond c5 (.bool false) undef, cond c6 (.bool false) undef, cond c7 (.pointer (some ⟨Bx, 1, none⟩)) undef, cond c8 (.string tt) undef, cond c9 (.slice (some ⟨w2.heap.size, 0, none⟩) 2 2) undef, cond c10 (.int .i64 0) undef, cond c11 (.pointer (some ⟨w2.heap.size, 0, none⟩)) undef, cond c12 (.string tt) undef, cond c13 (.bool false) undef, cond c14 (.bool false) undef, undef, undef, undef, undef], defers := [] } ∧ w' = W.drew) ?_ ?_ ?_
          · exact ⟨false, false, false, false, false, false, false, false, false, false, false, false, false, false, false, rfl, rfl, rfl⟩
          · rintro lm a' w' i' ⟨c0, c1, c2, c3, c4, c5, c6, c7, c8, c9, c10, c11, c12, c13, c14, rfl, rfl, rfl⟩ hi'
            obtain ⟨hlt', hop'⟩ := ready_open hi'
            have hd' := ready_deps hi'
            clear hi'
            have hc' : i' = 0 ∨ i' = 1 ∨ i' = 2 ∨ i' = 3 ∨ i' = 4 ∨ i' = 5 ∨ i' = 6 ∨ i' = 7 ∨ i' = 8 ∨ i' = 9 ∨ i' = 10 ∨ i' = 11 ∨ i' = 12 ∨ i' = 13 ∨ i' = 14 := by simp at hlt'; omega
            rcases hc' with rfl | rfl | rfl | rfl | rfl | rfl | rfl | rfl | rfl | rfl | rfl | rfl | rfl | rfl | rfl
            all_goals (replace hd' := hd' _ rfl; simp [Region.binds] at hd' hop'; subst hop'; (repeat (obtain ⟨h_, hd'⟩ := hd'; first | subst h_ | skip)); (try subst hd'); refine wpOpIn_step rfl ?_; intro K' hK'; first | (rw [if_pos (by rfl)]; unfold Oper.wpIn; refine ⟨by simp [Oper.about], ?_⟩; go_simp; exact hK' _ _ ⟨_, _, _, _, _, _, _, _, _, _, _, _, _, _, _, rfl, rfl, rfl⟩) | (refine ite_off (by intro h; exact absurd (show false = true from h) (by decide)) ⟨by simp [Oper.about], ?_⟩; exact hK' _ _ ⟨_, _, _, _, _, _, _, _, _, _, _, _, _, _, _, rfl, rfl, rfl⟩))
          · rintro lm a' w' ⟨c0, c1, c2, c3, c4, c5, c6, c7, c8, c9, c10, c11, c12, c13, c14, rfl, rfl, rfl⟩ hr'
            obtain rfl : c0 = true := by have := ready_none hr' 0 _ rfl (by simp [Region.binds]); simpa using this
            obtain rfl : c1 = true := by have := ready_none hr' 1 _ rfl (by simp [Region.binds]); simpa using this
            obtain rfl : c2 = true := by have := ready_none hr' 2 _ rfl (by simp [Region.binds]); simpa using this
            obtain rfl : c3 = true := by have := ready_none hr' 3 _ rfl (by simp [Region.binds]); simpa using this
            obtain rfl : c4 = true := by have := ready_none hr' 4 _ rfl (by simp [Region.binds]); simpa using this
            obtain rfl : c5 = true := by have := ready_none hr' 5 _ rfl (by simp [Region.binds]); simpa using this
            obtain rfl : c6 = true := by have := ready_none hr' 6 _ rfl (by simp [Region.binds]); simpa using this
            obtain rfl : c7 = true := by have := ready_none hr' 7 _ rfl (by simp [Region.binds]); simpa using this
            obtain rfl : c8 = true := by have := ready_none hr' 8 _ rfl (by simp [Region.binds]); simpa using this
            obtain rfl : c9 = true := by have := ready_none hr' 9 _ rfl (by simp [Region.binds]); simpa using this
            obtain rfl : c10 = true := by have := ready_none hr' 10 _ rfl (by simp [Region.binds]); simpa using this
            obtain rfl : c11 = true := by have := ready_none hr' 11 _ rfl (by simp [Region.binds]); simpa using this
            obtain rfl : c12 = true := by have := ready_none hr' 12 _ rfl (by simp [Region.binds]); simpa using this
            obtain rfl : c13 = true := by have := ready_none hr' 13 _ rfl (by simp [Region.binds]); simpa using this
            obtain rfl : c14 = true := by have := ready_none hr' 14 _ rfl (by simp [Region.binds]); simpa using this
            clear hr'
            dsimp only [cond]
            gi_wp2
            exact onF.out HG.out 1 rfl _ _
        · have hne : (tt.toList == s.toList) = false := beq_eq_false_iff_ne.mpr (fun h => ht (by rw [toList_L, toList_L] at h; exact ext_L h))
          have HV := Aside0.mk (hSt.out (fun h => ht (by have := h.2.2; rw [toList_L, toList_L] at this; exact ext_L this)))
          gi_wp2_with fail
          refine region_inv (by kernel_rfl) (fun lm a' w' => ∃ c0 c1 c2 c3 c4 c5 c6 c7 c8 c9 c10 c11 c12 c13 c14 : Bool, lm = #[c0, c1, c2, c3, c4, c5, c6, c7, c8, c9, c10, c11, c12, c13, c14] ∧ a' = { tmps := #[.string s, .string t, undef, undef, .pointer (some ⟨w.heap.size, 0, none⟩), .pointer (some ⟨w.heap.size + 1, 0, none⟩), .int .i64 k1, .bool true, .int .i64 k2, .bool true, .pointer (some ⟨w2.heap.size + 1, 0, none⟩), .pointer (some ⟨w2.heap.size + 1 + 1, 0, none⟩), .pointer (some ⟨Bx, 0, none⟩), .int .i64 0, .tuple #[.int .i64 k1, .bool true], .string s, .tuple #[.int .i64 k1, .bool true], .int .i64 k1, .bool true, .bool true, .bool false, .tuple #[.int .i64 k2, .bool true], .string t, .tuple #[.int .i64 k2, .bool true], .int .i64 k2, .bool true, .bool true, .bool false, .string s, .string t, .slice (some ⟨w2.heap.size, 0, none⟩) 2 2, .string s, .string t, .string (s ++ t), .func (.func 105) #[] #[.pointer (some ⟨w2.heap.size + 1 + 1 + 1, 0, none⟩)], .agg (tokB ⟨k, tt, p, q, sp⟩), .int .i64 0, cond c0 (.int .i64 0) undef, cond c1 (.bool false) undef, cond c2 (.bool false) undef, cond c3 (.int .i64 0) undef, cond c4 (.bool false) undef, cond c5 (.bool false) undef, cond c6 (.bool false) undef, cond c7 (.pointer (some ⟨Bx, 1, none⟩)) undef, cond c8 (.string tt) undef, cond c9 (.slice (some ⟨w2.heap.size, 0, none⟩) 2 2) undef, cond c10 (.int .i64 0) undef, cond c11 (.pointer (some ⟨w2.heap.size, 0, none⟩)) undef, cond c12 (.string s) undef, cond c13 (.bool true) undef, cond c14 (.bool true) undef, undef, undef, undef, undef], defers := [] } ∧ w' = W.drew) ?_ ?_ ?_
          · exact ⟨false, false, false, false, false, false, false, false, false, false, false, false, false, false, false, rfl, rfl, rfl⟩
          · rintro lm a' w' i' ⟨c0, c1, c2, c3, c4, c5, c6, c7, c8, c9, c10, c11, c12, c13, c14, rfl, rfl, rfl⟩ hi'
            obtain ⟨hlt', hop'⟩ := ready_open hi'
            have hd' := ready_deps hi'
            clear hi'
            have hc' : i' = 0 ∨ i' = 1 ∨ i' = 2 ∨ i' = 3 ∨ i' = 4 ∨ i' = 5 ∨ i' = 6 ∨ i' = 7 ∨ i' = 8 ∨ i' = 9 ∨ i' = 10 ∨ i' = 11 ∨ i' = 12 ∨ i' = 13 ∨ i' = 14 := by simp at hlt'; omega
            rcases hc' with rfl | rfl | rfl | rfl | rfl | rfl | rfl | rfl | rfl | rfl | rfl | rfl | rfl | rfl | rfl
            all_goals (replace hd' := hd' _ rfl; simp [Region.binds] at hd' hop'; subst hop'; (repeat (obtain ⟨h_, hd'⟩ := hd'; first | subst h_ | skip)); (try subst hd'); refine wpOpIn_step rfl ?_; intro K' hK'; first | (rw [if_pos (by rfl)]; unfold Oper.wpIn; refine ⟨by simp [Oper.about], ?_⟩; go_simp; exact hK' _ _ ⟨_, _, _, _, _, _, _, _, _, _, _, _, _, _, _, rfl, rfl, rfl⟩) | (refine ite_off (by intro h; exact absurd (show false = true from h) (by decide)) ⟨by simp [Oper.about], ?_⟩; exact hK' _ _ ⟨_, _, _, _, _, _, _, _, _, _, _, _, _, _, _, rfl, rfl, rfl⟩))
          · rintro lm a' w' ⟨c0, c1, c2, c3, c4, c5, c6, c7, c8, c9, c10, c11, c12, c13, c14, rfl, rfl, rfl⟩ hr'
            obtain rfl : c0 = true := by have := ready_none hr' 0 _ rfl (by simp [Region.binds]); simpa using this
            obtain rfl : c1 = true := by have := ready_none hr' 1 _ rfl (by simp [Region.binds]); simpa using this
            obtain rfl : c2 = true := by have := ready_none hr' 2 _ rfl (by simp [Region.binds]); simpa using this
            obtain rfl : c3 = true := by have := ready_none hr' 3 _ rfl (by simp [Region.binds]); simpa using this
            obtain rfl : c4 = true := by have := ready_none hr' 4 _ rfl (by simp [Region.binds]); simpa using this
            obtain rfl : c5 = true := by have := ready_none hr' 5 _ rfl (by simp [Region.binds]); simpa using this
            obtain rfl : c6 = true := by have := ready_none hr' 6 _ rfl (by simp [Region.binds]); simpa using this
            obtain rfl : c7 = true := by have := ready_none hr' 7 _ rfl (by simp [Region.binds]); simpa using this
            obtain rfl : c8 = true := by have := ready_none hr' 8 _ rfl (by simp [Region.binds]); simpa using this
            obtain rfl : c9 = true := by have := ready_none hr' 9 _ rfl (by simp [Region.binds]); simpa using this
            obtain rfl : c10 = true := by have := ready_none hr' 10 _ rfl (by simp [Region.binds]); simpa using this
            obtain rfl : c11 = true := by have := ready_none hr' 11 _ rfl (by simp [Region.binds]); simpa using this
            obtain rfl : c12 = true := by have := ready_none hr' 12 _ rfl (by simp [Region.binds]); simpa using this
            obtain rfl : c13 = true := by have := ready_none hr' 13 _ rfl (by simp [Region.binds]); simpa using this
            obtain rfl : c14 = true := by have := ready_none hr' 14 _ rfl (by simp [Region.binds]); simpa using this
            clear hr'
            dsimp only [cond]
            gi_wp2
            exact FIN.out _ _ HV.out
      · have c2' : W.cell? ⟨w2.heap.size + 1 + 1, 0, none⟩ = some (.int .i64 1) := c2
        clear c2
        by_cases ht : tt = t
        · subst ht
          have HG := Aside0.mk (hGo.out rfl (by omega) rfl)
          gi_wp2_with fail
          refine region_inv (by kernel_rfl) (fun lm a' w' => ∃ c0 c1 c2 c3 c4 c5 c6 c7 c8 c9 c10 c11 c12 c13 c14 : Bool, lm = #[c0, c1, c2, c3, c4, c5, c6, c7, c8, c9, c10, c11, c12, c13, c14] ∧ a' = { tmps := #[.string s, .string tt, undef, undef, .pointer (some ⟨w.heap.size, 0, none⟩), .pointer (some ⟨w.heap.size + 1, 0, none⟩), .int .i64 k1, .bool true, .int .i64 k2, .bool true, .pointer (some ⟨w2.heap.size + 1, 0, none⟩), .pointer (some ⟨w2.heap.size + 1 + 1, 0, none⟩), .pointer (some ⟨Bx, 0, none⟩), .int .i64 0, .tuple #[.int .i64 k1, .bool true], .string s, .tuple #[.int .i64 k1, .bool true], .int .i64 k1, .bool true, .bool true, .bool false, .tuple #[.int .i64 k2, .bool true], .string tt, .tuple #[.int .i64 k2, .bool true], .int .i64 k2, .bool true, .bool true, .bool false, .string s, .string tt, .slice (some ⟨w2.heap.size, 0, none⟩) 2 2, .string s, .string tt, .string (s ++ tt), .func (.func 105) #[] #[.pointer (some ⟨w2.heap.size + 1 + 1 + 1, 0, none⟩)], .agg (tokB ⟨k, tt, p, q, sp⟩), .int .i64 0, cond c0 (.int .i64 0) undef, cond c1 (.bool false) undef, cond c2 (.bool false) undef, cond c3 (.int .i64 1) undef, cond c4 (.bool false) undef, cond c5 (.bool false) undef, cond c6 (.bool false) undef, cond c7 (.pointer (some ⟨Bx, 1, none⟩)) undef, cond c8 (.string tt) undef, cond c9 (.slice (some ⟨w2.heap.size, 0, none⟩) 2 2) undef, cond c10 (.int .i64 1) undef, cond c11 (.pointer (some ⟨w2.heap.size, 1, none⟩)) undef, cond c12 (.string tt) undef, cond c13 (.bool false) undef, cond c14 (.bool false) undef, undef, undef, undef, undef], defers := [] } ∧ w' = W.drew) ?_ ?_ ?_
          · exact ⟨false, false, false, false, false, false, false, false, false, false, false, false, false, false, false, rfl, rfl, rfl⟩
          · rintro lm a' w' i' ⟨c0, c1, c2, c3, c4, c5, c6, c7, c8, c9, c10, c11, c12, c13, c14, rfl, rfl, rfl⟩ hi'
            obtain ⟨hlt', hop'⟩ := ready_open hi'
            have hd' := ready_deps hi'
            clear hi'
            have hc' : i' = 0 ∨ i' = 1 ∨ i' = 2 ∨ i' = 3 ∨ i' = 4 ∨ i' = 5 ∨ i' = 6 ∨ i' = 7 ∨ i' = 8 ∨ i' = 9 ∨ i' = 10 ∨ i' = 11 ∨ i' = 12 ∨ i' = 13 ∨ i' = 14 := by simp at hlt'; omega
            rcases hc' with rfl | rfl | rfl | rfl | rfl | rfl | rfl | rfl | rfl | rfl | rfl | rfl | rfl | rfl | rfl
            all_goals (replace hd' := hd' _ rfl; simp [Region.binds] at hd' hop'; subst hop'; (repeat (obtain ⟨h_, hd'⟩ := hd'; first | subst h_ | skip)); (try subst hd'); refine wpOpIn_step rfl ?_; intro K' hK'; first | (rw [if_pos (by rfl)]; unfold Oper.wpIn; refine ⟨by simp [Oper.about], ?_⟩; go_simp; exact hK' _ _ ⟨_, _, _, _, _, _, _, _, _, _, _, _, _, _, _, rfl, rfl, rfl⟩) | (refine ite_off (by intro h; exact absurd (show false = true from h) (by decide)) ⟨by simp [Oper.about], ?_⟩; exact hK' _ _ ⟨_, _, _, _, _, _, _, _, _, _, _, _, _, _, _, rfl, rfl, rfl⟩))
          · rintro lm a' w' ⟨c0, c1, c2, c3, c4, c5, c6, c7, c8, c9, c10, c11, c12, c13, c14, rfl, rfl, rfl⟩ hr'
            obtain rfl : c0 = true := by have := ready_none hr' 0 _ rfl (by simp [Region.binds]); simpa using this
            obtain rfl : c1 = true := by have := ready_none hr' 1 _ rfl (by simp [Region.binds]); simpa using this
            obtain rfl : c2 = true := by have := ready_none hr' 2 _ rfl (by simp [Region.binds]); simpa using this
            obtain rfl : c3 = true := by have := ready_none hr' 3 _ rfl (by simp [Region.binds]); simpa using this
            obtain rfl : c4 = true := by have := ready_none hr' 4 _ rfl (by simp [Region.binds]); simpa using this
            obtain rfl : c5 = true := by have := ready_none hr' 5 _ rfl (by simp [Region.binds]); simpa using this
            obtain rfl : c6 = true := by have := ready_none hr' 6 _ rfl (by simp [Region.binds]); simpa using this
            obtain rfl : c7 = true := by have := ready_none hr' 7 _ rfl (by simp [Region.binds]); simpa using this
            obtain rfl : c8 = true := by have := ready_none hr' 8 _ rfl (by simp [Region.binds]); simpa using this
            obtain rfl : c9 = true := by have := ready_none hr' 9 _ rfl (by simp [Region.binds]); simpa using this
            obtain rfl : c10 = true := by have := ready_none hr' 10 _ rfl (by simp [Region.binds]); simpa using this
            obtain rfl : c11 = true := by have := ready_none hr' 11 _ rfl (by simp [Region.binds]); simpa using this
            obtain rfl : c12 = true := by have := ready_none hr' 12 _ rfl (by simp [Region.binds]); simpa using this
            obtain rfl : c13 = true := by have := ready_none hr' 13 _ rfl (by simp [Region.binds]); simpa using this
            obtain rfl : c14 = true := by have := ready_none hr' 14 _ rfl (by simp [Region.binds]); simpa using this
            clear hr'
            dsimp only [cond]
            gi_wp2
            exact onF.out HG.out 2 rfl _ _
        · have hne : (tt.toList == t.toList) = false := beq_eq_false_iff_ne.mpr (fun h => ht (by rw [toList_L, toList_L] at h; exact ext_L h))
          have HV := Aside0.mk (hSt.out (fun h => ht (by have := h.2.2; rw [toList_L, toList_L] at this; exact ext_L this)))
          gi_wp2_with fail
          refine region_inv (by kernel_rfl) (fun lm a' w' => ∃ c0 c1 c2 c3 c4 c5 c6 c7 c8 c9 c10 c11 c12 c13 c14 : Bool, lm = #[c0, c1, c2, c3, c4, c5, c6, c7, c8, c9, c10, c11, c12, c13, c14] ∧ a' = { tmps := #[.string s, .string t, undef, undef, .pointer (some ⟨w.heap.size, 0, none⟩), .pointer (some ⟨w.heap.size + 1, 0, none⟩), .int .i64 k1, .bool true, .int .i64 k2, .bool true, .pointer (some ⟨w2.heap.size + 1, 0, none⟩), .pointer (some ⟨w2.heap.size + 1 + 1, 0, none⟩), .pointer (some ⟨Bx, 0, none⟩), .int .i64 0, .tuple #[.int .i64 k1, .bool true], .string s, .tuple #[.int .i64 k1, .bool true], .int .i64 k1, .bool true, .bool true, .bool false, .tuple #[.int .i64 k2, .bool true], .string t, .tuple #[.int .i64 k2, .bool true], .int .i64 k2, .bool true, .bool true, .bool false, .string s, .string t, .slice (some ⟨w2.heap.size, 0, none⟩) 2 2, .string s, .string t, .string (s ++ t), .func (.func 105) #[] #[.pointer (some ⟨w2.heap.size + 1 + 1 + 1, 0, none⟩)], .agg (tokB ⟨k, tt, p, q, sp⟩), .int .i64 0, cond c0 (.int .i64 0) undef, cond c1 (.bool false) undef, cond c2 (.bool false) undef, cond c3 (.int .i64 1) undef, cond c4 (.bool false) undef, cond c5 (.bool false) undef, cond c6 (.bool false) undef, cond c7 (.pointer (some ⟨Bx, 1, none⟩)) undef, cond c8 (.string tt) undef, cond c9 (.slice (some ⟨w2.heap.size, 0, none⟩) 2 2) undef, cond c10 (.int .i64 1) undef, cond c11 (.pointer (some ⟨w2.heap.size, 1, none⟩)) undef, cond c12 (.string t) undef, cond c13 (.bool true) undef, cond c14 (.bool true) undef, undef, undef, undef, undef], defers := [] } ∧ w' = W.drew) ?_ ?_ ?_
          · exact ⟨false, false, false, false, false, false, false, false, false, false, false, false, false, false, false, rfl, rfl, rfl⟩
          · rintro lm a' w' i' ⟨c0, c1, c2, c3, c4, c5, c6, c7, c8, c9, c10, c11, c12, c13, c14, rfl, rfl, rfl⟩ hi'
            obtain ⟨hlt', hop'⟩ := ready_open hi'
            have hd' := ready_deps hi'
            clear hi'
            have hc' : i' = 0 ∨ i' = 1 ∨ i' = 2 ∨ i' = 3 ∨ i' = 4 ∨ i' = 5 ∨ i' = 6 ∨ i' = 7 ∨ i' = 8 ∨ i' = 9 ∨ i' = 10 ∨ i' = 11 ∨ i' = 12 ∨ i' = 13 ∨ i' = 14 := by simp at hlt'; omega
            rcases hc' with rfl | rfl | rfl | rfl | rfl | rfl | rfl | rfl | rfl | rfl | rfl | rfl | rfl | rfl | rfl
            all_goals (replace hd' := hd' _ rfl; simp [Region.binds] at hd' hop'; subst hop'; (repeat (obtain ⟨h_, hd'⟩ := hd'; first | subst h_ | skip)); (try subst hd'); refine wpOpIn_step rfl ?_; intro K' hK'; first | (rw [if_pos (by rfl)]; unfold Oper.wpIn; refine ⟨by simp [Oper.about], ?_⟩; go_simp; exact hK' _ _ ⟨_, _, _, _, _, _, _, _, _, _, _, _, _, _, _, rfl, rfl, rfl⟩) | (refine ite_off (by intro h; exact absurd (show false = true from h) (by decide)) ⟨by simp [Oper.about], ?_⟩; exact hK' _ _ ⟨_, _, _, _, _, _, _, _, _, _, _, _, _, _, _, rfl, rfl, rfl⟩))
          · rintro lm a' w' ⟨c0, c1, c2, c3, c4, c5, c6, c7, c8, c9, c10, c11, c12, c13, c14, rfl, rfl, rfl⟩ hr'
            obtain rfl : c0 = true := by have := ready_none hr' 0 _ rfl (by simp [Region.binds]); simpa using this
            obtain rfl : c1 = true := by have := ready_none hr' 1 _ rfl (by simp [Region.binds]); simpa using this
            obtain rfl : c2 = true := by have := ready_none hr' 2 _ rfl (by simp [Region.binds]); simpa using this
            obtain rfl : c3 = true := by have := ready_none hr' 3 _ rfl (by simp [Region.binds]); simpa using this
            obtain rfl : c4 = true := by have := ready_none hr' 4 _ rfl (by simp [Region.binds]); simpa using this
            obtain rfl : c5 = true := by have := ready_none hr' 5 _ rfl (by simp [Region.binds]); simpa using this
            obtain rfl : c6 = true := by have := ready_none hr' 6 _ rfl (by simp [Region.binds]); simpa using this
            obtain rfl : c7 = true := by have := ready_none hr' 7 _ rfl (by simp [Region.binds]); simpa using this
            obtain rfl : c8 = true := by have := ready_none hr' 8 _ rfl (by simp [Region.binds]); simpa using this
            obtain rfl : c9 = true := by have := ready_none hr' 9 _ rfl (by simp [Region.binds]); simpa using this
            obtain rfl : c10 = true := by have := ready_none hr' 10 _ rfl (by simp [Region.binds]); simpa using this
            obtain rfl : c11 = true := by have := ready_none hr' 11 _ rfl (by simp [Region.binds]); simpa using this
            obtain rfl : c12 = true := by have := ready_none hr' 12 _ rfl (by simp [Region.binds]); simpa using this
            obtain rfl : c13 = true := by have := ready_none hr' 13 _ rfl (by simp [Region.binds]); simpa using this
            obtain rfl : c14 = true := by have := ready_none hr' 14 _ rfl (by simp [Region.binds]); simpa using this
            clear hr'
            dsimp only [cond]
            gi_wp2
            exact FIN.out _ _ HV.out
    · have he' : (e != 0) = true := bne_iff_ne.mpr he
      have HV := Aside0.mk (hSt.out (fun h => he h.1))
      gi_wp2_with fail
      refine region_inv (by kernel_rfl) (fun lm a' w' => ∃ c0 c1 c2 c3 c4 c5 c6 c7 c8 c9 c10 c11 c12 c13 c14 : Bool, lm = #[c0, c1, c2, c3, c4, c5, c6, c7, c8, c9, c10, c11, c12, c13, c14] ∧ a' = { tmps := #[.string s, .string t, undef, undef, .pointer (some ⟨w.heap.size, 0, none⟩), .pointer (some ⟨w.heap.size + 1, 0, none⟩), .int .i64 k1, .bool true, .int .i64 k2, .bool true, .pointer (some ⟨w2.heap.size + 1, 0, none⟩), .pointer (some ⟨w2.heap.size + 1 + 1, 0, none⟩), .pointer (some ⟨Bx, 0, none⟩), .int .i64 e, .tuple #[.int .i64 k1, .bool true], .string s, .tuple #[.int .i64 k1, .bool true], .int .i64 k1, .bool true, .bool true, .bool false, .tuple #[.int .i64 k2, .bool true], .string t, .tuple #[.int .i64 k2, .bool true], .int .i64 k2, .bool true, .bool true, .bool false, .string s, .string t, .slice (some ⟨w2.heap.size, 0, none⟩) 2 2, .string s, .string t, .string (s ++ t), .func (.func 105) #[] #[.pointer (some ⟨w2.heap.size + 1 + 1 + 1, 0, none⟩)], .agg (tokB ⟨k, tt, p, q, sp⟩), .int .i64 e, cond c0 (.int .i64 e) undef, cond c1 (.bool true) undef, cond c2 (.bool true) undef, undef, undef, cond c5 (.bool true) undef, cond c6 (.bool true) undef, undef, undef, undef, undef, undef, undef, undef, cond c14 (.bool true) undef, undef, undef, undef, undef], defers := [] } ∧ w' = W.drew) ?_ ?_ ?_
      · exact ⟨false, false, false, false, false, false, false, false, false, false, false, false, false, false, false, rfl, rfl, rfl⟩
      · rintro lm a' w' i' ⟨c0, c1, c2, c3, c4, c5, c6, c7, c8, c9, c10, c11, c12, c13, c14, rfl, rfl, rfl⟩ hi'
        obtain ⟨hlt', hop'⟩ := ready_open hi'
        have hd' := ready_deps hi'
        clear hi'
        have hc' : i' = 0 ∨ i' = 1 ∨ i' = 2 ∨ i' = 3 ∨ i' = 4 ∨ i' = 5 ∨ i' = 6 ∨ i' = 7 ∨ i' = 8 ∨ i' = 9 ∨ i' = 10 ∨ i' = 11 ∨ i' = 12 ∨ i' = 13 ∨ i' = 14 := by simp at hlt'; omega
        rcases hc' with rfl | rfl | rfl | rfl | rfl | rfl | rfl | rfl | rfl | rfl | rfl | rfl | rfl | rfl | rfl
        all_goals (replace hd' := hd' _ rfl; simp [Region.binds] at hd' hop'; subst hop'; (repeat (obtain ⟨h_, hd'⟩ := hd'; first | subst h_ | skip)); (try subst hd'); refine wpOpIn_step rfl ?_; intro K' hK'; first | (rw [if_pos (by rfl)]; unfold Oper.wpIn; refine ⟨by simp [Oper.about], ?_⟩; go_simp; exact hK' _ _ ⟨_, _, _, _, _, _, _, _, _, _, _, _, _, _, _, rfl, rfl, rfl⟩) | (refine ite_off (by intro h; exact absurd (show false = true from h) (by decide)) ⟨by simp [Oper.about], ?_⟩; exact hK' _ _ ⟨_, _, _, _, _, _, _, _, _, _, _, _, _, _, _, rfl, rfl, rfl⟩))
      · rintro lm a' w' ⟨c0, c1, c2, c3, c4, c5, c6, c7, c8, c9, c10, c11, c12, c13, c14, rfl, rfl, rfl⟩ hr'
        obtain rfl : c0 = true := by have := ready_none hr' 0 _ rfl (by simp [Region.binds]); simpa using this
        obtain rfl : c1 = true := by have := ready_none hr' 1 _ rfl (by simp [Region.binds]); simpa using this
        obtain rfl : c2 = true := by have := ready_none hr' 2 _ rfl (by simp [Region.binds]); simpa using this
        obtain rfl : c3 = true := by have := ready_none hr' 3 _ rfl (by simp [Region.binds]); simpa using this
        obtain rfl : c4 = true := by have := ready_none hr' 4 _ rfl (by simp [Region.binds]); simpa using this
        obtain rfl : c5 = true := by have := ready_none hr' 5 _ rfl (by simp [Region.binds]); simpa using this
        obtain rfl : c6 = true := by have := ready_none hr' 6 _ rfl (by simp [Region.binds]); simpa using this
        obtain rfl : c7 = true := by have := ready_none hr' 7 _ rfl (by simp [Region.binds]); simpa using this
        obtain rfl : c8 = true := by have := ready_none hr' 8 _ rfl (by simp [Region.binds]); simpa using this
        obtain rfl : c9 = true := by have := ready_none hr' 9 _ rfl (by simp [Region.binds]); simpa using this
        obtain rfl : c10 = true := by have := ready_none hr' 10 _ rfl (by simp [Region.binds]); simpa using this
        obtain rfl : c11 = true := by have := ready_none hr' 11 _ rfl (by simp [Region.binds]); simpa using this
        obtain rfl : c12 = true := by have := ready_none hr' 12 _ rfl (by simp [Region.binds]); simpa using this
        obtain rfl : c13 = true := by have := ready_none hr' 13 _ rfl (by simp [Region.binds]); simpa using this
        obtain rfl : c14 = true := by have := ready_none hr' 14 _ rfl (by simp [Region.binds]); simpa using this
        clear hr'
        dsimp only [cond]
        gi_wp2
        exact FIN.out _ _ HV.out
  case done =>
    rintro D xs W hD hxs ⟨hF, ⟨⟨b0, b1⟩, b2, b3, b4⟩, hB⟩ hK
    rw [← hts] at hxs
    subst hxs
    have c2 := b2.cell
    have c3 := b3.cell
    have c4 := b4.cell
    have f3 := b3.frozen
    have f4 := b4.frozen
    have HO := Aside0.mk (HR.out.symm.trans (fu_end hF))
    have hv : ((xs.length : Int) != 2) = r1 := by
      rw [HO.out]
      by_cases h : xs.length = 2
      · rw [h]; rfl
      · rw [decide_eq_true h, bne_iff_ne]; omega
    have HV := Aside0.mk hv
    clear hts hv
    gi_wp2
    rw [HV.out]
    have hKD : ((W.setCell ⟨w.heap.size, 0, none⟩ (.bool r1)).setCell ⟨w.heap.size + 1, 0, none⟩ (.int .i64 0)).heap[D]? = some (.deferred (some [])) :=
      (Below.heap_setCell _ _ _ _ (by show D ≠ w.heap.size + 1; omega)).trans ((Below.heap_setCell _ _ _ _ (by show D ≠ w.heap.size; omega)).trans hK)
    have hBD : Below w.heap.size w ((W.setCell ⟨w.heap.size, 0, none⟩ (.bool r1)).setCell ⟨w.heap.size + 1, 0, none⟩ (.int .i64 0)) :=
      (hB.setCell (p := ⟨w.heap.size, 0, none⟩) (Nat.le_refl _) _).setCell (p := ⟨w.heap.size + 1, 0, none⟩) (by show w.heap.size ≤ w.heap.size + 1; omega) _
    refine ⟨by simp, .inl ⟨_, _, rfl, run_takeDeferred hKD, ?_⟩⟩
    refine ⟨_, results_cells2 rfl _ _ w.heap.size (w.heap.size + 1) (.bool r1) (.int .i64 0) _ _ rfl ?_ Try.underlying4 rfl rfl ?_ Try.underlying31 rfl, rfl, ?_⟩
    · exact Boxed.cell (t := 4) ((World.putObj_heap_other (by omega)).trans ((b3.set _).other (by omega) _))
    · exact Boxed.cell (t := 31) ((World.putObj_heap_other (by omega)).trans ((b4.other (by omega) _).set _))
    · exact hBD.trans (belowK_b (w := w) (Nat.le_refl _) _ D _ _ (by omega) hKD rfl rfl)
  case stop =>
    rintro D c pre W hD hpre ⟨⟨rfl, rfl⟩, ⟨b1, b2⟩, hB⟩ hK
    gi_wp2
    refine ⟨by simp, .inl ⟨_, _, rfl, run_takeDeferred hK, ?_⟩⟩
    refine ⟨_, results_cells2 rfl _ _ w.heap.size (w.heap.size + 1) (.bool true) (.int .i64 0) _ _ rfl ?_ Try.underlying4 rfl rfl ?_ Try.underlying31 rfl, rfl, ?_⟩
    · exact Boxed.cell (t := 4) ((World.putObj_heap_other (by omega)).trans b1)
    · exact Boxed.cell (t := 31) ((World.putObj_heap_other (by omega)).trans b2)
    · exact hB.trans (belowK_b (w := w) (Nat.le_refl _) _ D _ _ (by omega) hK rfl rfl)
set_option maxHeartbeats 4000000 in
set_option maxRecDepth 100000 in
theorem fuses_no1 (s t : ByteArray) (hs : s.size ≤ 1000000) (k1 : Int) (H1 : Aside0 (oneT s = (k1, false))) (w : World) (hm : HasMax w) :
    Calls Try.prog 53 #[.string s, .string t] w fun e w' => e = .returned (.tuple #[.bool false, .int .i64 2]) ∧ Below w.heap.size w w' := by
  have HC1 := Aside0.mk ((callsIn_wide (n := 3)).2 (scan_One.calls s k1 false ((w.alloc (.cells #[.bool false] 4)).alloc (.cells #[.int .i64 0] 31)) (by unfold scan_One.f; rw [if_pos hs, H1.out]) (max_below (below_alloc (below_alloc (Below.refl _ _) _) _) hm)))
  refine (callsIn_wide (n := 4)).1 ?_
  refine callsIn_of_wp_marks Try.func53 rfl trivial ?_ rfl
  simp only [Try.ntmps53, List.size_toArray, List.length_cons, List.length_nil, Nat.reduceAdd, Nat.reduceSub, Array.replicate_succ, Array.replicate_zero, List.push_toArray, List.append_toArray, List.nil_append, List.cons_append]
  gi_wp2_with fail
  refine ⟨trivial, ?_⟩
  refine HC1.out.mono ?_
  rintro e w1 ⟨rfl, hb1⟩
  have HB1 := Aside0.mk hb1
  clear hb1
  have bI : Boxed w1 w.heap.size 4 (.bool false) := (HB1.out.block _ (by simp; omega)).trans ((Boxed.new w 4 (.bool false)).alloc _)
  have bE : Boxed w1 (w.heap.size + 1) 31 (.int .i64 0) := (HB1.out.block _ (by simp)).trans (by have := Boxed.new (w.alloc (.cells #[.bool false] 4)) 31 (.int .i64 0); rwa [World.size_alloc] at this)
  have hB : Below w.heap.size w w1 := below_step (below_alloc (below_alloc (Below.refl _ _) _) _) HB1.out
  have c3 := bI.cell
  have c4 := bE.cell
  have f3 := bI.frozen
  have f4 := bE.frozen
  gi_wp2
  refine ⟨_, results_cells2 rfl _ _ w.heap.size (w.heap.size + 1) (.bool false) (.int .i64 2) _ _ rfl ?_ Try.underlying4 rfl rfl ?_ Try.underlying31 rfl, rfl, ?_⟩
  · exact Boxed.cell (t := 4) ((bI.set _).other (by omega) _)
  · exact Boxed.cell (t := 31) ((bE.other (by omega) _).set _)
  · exact (hB.setCell (p := ⟨w.heap.size, 0, none⟩) (Nat.le_refl _) _).setCell (p := ⟨w.heap.size + 1, 0, none⟩) (by show w.heap.size ≤ w.heap.size + 1; omega) _
set_option maxHeartbeats 4000000 in
set_option maxRecDepth 100000 in
theorem fuses_no2 (s t : ByteArray) (hs : s.size + t.size ≤ 1000000) (k1 k2 : Int) (H1 : Aside0 (oneT s = (k1, true))) (H2 : Aside0 (oneT t = (k2, false))) (w : World) (hm : HasMax w) :
    Calls Try.prog 53 #[.string s, .string t] w fun e w' => e = .returned (.tuple #[.bool false, .int .i64 2]) ∧ Below w.heap.size w w' := by
  have HM := Aside0.mk hm
  have HC1 := Aside0.mk ((callsIn_wide (n := 3)).2 (scan_One.calls s k1 true ((w.alloc (.cells #[.bool false] 4)).alloc (.cells #[.int .i64 0] 31)) (by unfold scan_One.f; rw [if_pos (by omega), H1.out]) (max_below (below_alloc (below_alloc (Below.refl _ _) _) _) hm)))
  have HC2 := Aside0.mk (fun (W : World) (hW : HasMax W) => (callsIn_wide (n := 3)).2 (scan_One.calls t k2 false W (by unfold scan_One.f; rw [if_pos (by omega), H2.out]) hW))
  refine (callsIn_wide (n := 4)).1 ?_
  refine callsIn_of_wp_marks Try.func53 rfl trivial ?_ rfl
  simp only [Try.ntmps53, List.size_toArray, List.length_cons, List.length_nil, Nat.reduceAdd, Nat.reduceSub, Array.replicate_succ, Array.replicate_zero, List.push_toArray, List.append_toArray, List.nil_append, List.cons_append]
  gi_wp2_with fail
  refine ⟨trivial, ?_⟩
  refine HC1.out.mono ?_
  rintro e w1 ⟨rfl, hb1⟩
  have HB1 := Aside0.mk hb1
  clear hb1
  gi_wp2_with fail
  refine ⟨trivial, ?_⟩
  have hB01 : Below w.heap.size w ((w.alloc (.cells #[.bool false] 4)).alloc (.cells #[.int .i64 0] 31)) := below_alloc (below_alloc (Below.refl _ _) _) _
  refine (HC2.out _ (max_below (below_step hB01 HB1.out) HM.out)).mono ?_
  rintro e w2 ⟨rfl, hb2⟩
  have bI : Boxed w2 w.heap.size 4 (.bool false) := (hb2.block _ (by have := HB1.out.size; simp at this ⊢; omega)).trans ((HB1.out.block _ (by simp; omega)).trans ((Boxed.new w 4 (.bool false)).alloc _))
  have bE : Boxed w2 (w.heap.size + 1) 31 (.int .i64 0) := (hb2.block _ (by have := HB1.out.size; simp at this ⊢; omega)).trans ((HB1.out.block _ (by simp)).trans (by have := Boxed.new (w.alloc (.cells #[.bool false] 4)) 31 (.int .i64 0); rwa [World.size_alloc] at this))
  have hB : Below w.heap.size w w2 := below_step (below_step hB01 HB1.out) hb2
  clear hb2 hB01
  have c3 := bI.cell
  have c4 := bE.cell
  have f3 := bI.frozen
  have f4 := bE.frozen
  gi_wp2
  refine ⟨_, results_cells2 rfl _ _ w.heap.size (w.heap.size + 1) (.bool false) (.int .i64 2) _ _ rfl ?_ Try.underlying4 rfl rfl ?_ Try.underlying31 rfl, rfl, ?_⟩
  · exact Boxed.cell (t := 4) ((bI.set _).other (by omega) _)
  · exact Boxed.cell (t := 31) ((bE.other (by omega) _).set _)
  · exact (hB.setCell (p := ⟨w.heap.size, 0, none⟩) (Nat.le_refl _) _).setCell (p := ⟨w.heap.size + 1, 0, none⟩) (by show w.heap.size ≤ w.heap.size + 1; omega) _
/-- scan.Fuses answers fuseT. (HM: the library's variable holds a number; it is found in the context.) -/
theorem scan_Fuses.calls (a0 a1 : ByteArray) (r1 : Bool) (r2 : Int) (w : World) (h : scan_Fuses.f a0 a1 = some (r1, r2)) (HM : HasMax w := by first | assumption | exact max_below (Aside0.out (by assumption)) (by assumption)) :
    Calls Try.prog 53 #[.string a0, .string a1] w fun e w' => e = .returned (.tuple #[.bool r1, .int .i64 r2]) ∧ Below w.heap.size w w' := by
  unfold scan_Fuses.f at h
  split at h
  · rename_i hs
    have h := Option.some.inj h
    unfold fuseT at h
    obtain ⟨⟨k1, z1⟩, e1⟩ : ∃ r, oneT a0 = r := ⟨_, rfl⟩
    obtain ⟨⟨k2, z2⟩, e2⟩ : ∃ r, oneT a1 = r := ⟨_, rfl⟩
    rw [e1, e2] at h
    cases z1 with
    | false =>
      rw [if_pos rfl] at h
      obtain ⟨rfl, rfl⟩ := Prod.mk.inj h
      exact fuses_no1 a0 a1 (by omega) k1 ⟨e1⟩ w HM
    | true =>
      rw [if_neg (by simp)] at h
      cases z2 with
      | false =>
        rw [if_pos rfl] at h
        obtain ⟨rfl, rfl⟩ := Prod.mk.inj h
        exact fuses_no2 a0 a1 hs k1 k2 ⟨e1⟩ ⟨e2⟩ w HM
      | true =>
        rw [if_neg (by simp)] at h
        obtain ⟨h1, rfl⟩ := Prod.mk.inj h
        exact fuses_main a0 a1 hs k1 k2 r1 ⟨e1⟩ ⟨e2⟩ ⟨h1⟩ w HM
  · simp at h
end Go.Proofs.Ytonfmnohmigjpaa.P
