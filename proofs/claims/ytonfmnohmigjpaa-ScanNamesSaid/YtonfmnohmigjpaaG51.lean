/- The contract of scan.One: a text's kind, if it is one token. -/
import Derived.Test.YtonfmnohmigjpaaG86
import Derived.Test.YtonfmnohmigjpaaGN
namespace Go.Proofs.Ytonfmnohmigjpaa.P
open Go.RowKit Go.Shelf Go.Proofs.YtonfmnohmigjpaaW.PrintWords Go.Proofs.YtonfmnohmigjpaaW.PrintLast
attribute [local go_sem] Oper.semAt_some

theorem run_loadVar_one {P : Program} (w : World) (ty : TypeId) (a : Addr) (v : Value) (d : TypeDesc) (hc : w.cell? a = some v) (hu : P.underlying ty = some d) (hd : (match d with | .struct _ | .array _ _ => true | _ => false) = false) :
    (loadVar ty a).run P w = .ok v w := by
  have hagg : (isAgg ty).run P w = .ok false w := by
    unfold isAgg
    rw [Sem.run_bind, run_underlying hu w]
    cases d <;> simp_all
  simp [loadVar, Sem.run_bind, hagg, hc]
/-- Two results that lie in boxes. -/
theorem results_cells2 {P : Program} {fn : Func} {p p' : Tmp} {ty ty' : TypeId} (h : fn.results = #[.cell p ty, .cell p' ty']) (tmps : Array Value) (w : World) (g g' : Nat) (v v' : Value) (d d' : TypeDesc)
    (hp : tmps.getD p undef = .pointer (some ⟨g, 0, none⟩)) (hg : w.cell? ⟨g, 0, none⟩ = some v) (hu : P.underlying ty = some d) (hd : (match d with | .struct _ | .array _ _ => true | _ => false) = false)
    (hp' : tmps.getD p' undef = .pointer (some ⟨g', 0, none⟩)) (hg' : w.cell? ⟨g', 0, none⟩ = some v') (hu' : P.underlying ty' = some d') (hd' : (match d' with | .struct _ | .array _ _ => true | _ => false) = false) :
    (results fn tmps).run P w = .ok (.tuple #[v, v']) w := by
  have h1 : tmps[p]?.getD undef = .pointer (some ⟨g, 0, none⟩) := by simpa using hp
  have h2 : tmps[p']?.getD undef = .pointer (some ⟨g', 0, none⟩) := by simpa using hp'
  simp [results, h, h1, h2, asAddr, run_loadVar_one w ty _ v d hg hu hd, run_loadVar_one w ty' _ v' d' hg' hu' hd']

def scan_One.f (a0 : ByteArray) : Option (Int × Bool) := if a0.size ≤ 1000000 then some (oneT a0) else none
theorem oneT_nil {s : ByteArray} (h : toksF 0 false [] (L s) = []) : oneT s = (0, false) := by unfold oneT; rw [h]
theorem oneT_cons {s : ByteArray} {x : S26 × Int} {pre : List (S26 × Int)} (hp : x :: pre <+: toksF 0 false [] (L s)) : oneT s = if x.2 = 0 ∧ x.1.f1.toList = s.toList then (x.1.f0, true) else (0, false) := by
  obtain ⟨r, hr⟩ := hp
  unfold oneT
  rw [← hr]; rfl

theorem ext_L {a b : ByteArray} (h : L a = L b) : a = b := by
  cases a with
  | mk a =>
    cases b with
    | mk b => exact congrArg ByteArray.mk (Array.toList_inj.1 h)
set_option maxHeartbeats 4000000 in
set_option maxRecDepth 100000 in
theorem one_main (s : ByteArray) (hs : s.size ≤ 1000000) (r1 : Int) (r2 : Bool) (HR : Aside0 (oneT s = (r1, r2))) (w : World) (hm : HasMax w) :
    Calls Try.prog 51 #[.string s] w fun e w' => e = .returned (.tuple #[.int .i64 r1, .bool r2]) ∧ Below w.heap.size w w' := by
  have HM := Aside0.mk hm
  clear hm
  refine (callsIn_wide (n := 4)).1 ?_
  refine callsIn_of_wp_marks Try.func51 rfl trivial ?_ rfl
  simp only [Try.ntmps51, List.size_toArray, List.length_cons, List.length_nil, Nat.reduceAdd, Nat.reduceSub, Array.replicate_succ, Array.replicate_zero, List.push_toArray, List.append_toArray, List.nil_append, List.cons_append]
  gi_wp2_with (refine ⟨trivial, ?_⟩; gi_at_call 86; refine (tokens_in 3 s _).mono ?_; rintro e w1 ⟨rfl, rfl⟩)
  have bS := (((Boxed.new w 9 (.string s)).alloc (.cells #[.int .i64 0] 3)).alloc (.cells #[.bool false] 4)).alloc (.cells #[.string s] 9)
  have bK := ((Boxed.new (w.alloc (.cells #[.string s] 9)) 3 (.int .i64 0)).alloc (.cells #[.bool false] 4)).alloc (.cells #[.string s] 9)
  have bI := (Boxed.new ((w.alloc (.cells #[.string s] 9)).alloc (.cells #[.int .i64 0] 3)) 4 (.bool false)).alloc (.cells #[.string s] 9)
  have bT := Boxed.new (((w.alloc (.cells #[.string s] 9)).alloc (.cells #[.int .i64 0] 3)).alloc (.cells #[.bool false] 4)) 9 (.string s)
  simp only [World.size_alloc] at bK bI bT
  have hB0 : Below w.heap.size w ((((w.alloc (.cells #[.string s] 9)).alloc (.cells #[.int .i64 0] 3)).alloc (.cells #[.bool false] 4)).alloc (.cells #[.string s] 9)) := below_alloc (below_alloc (below_alloc (below_alloc (Below.refl _ _) _) _) _) _
  have hz0 : ((((w.alloc (.cells #[.string s] 9)).alloc (.cells #[.int .i64 0] 3)).alloc (.cells #[.bool false] 4)).alloc (.cells #[.string s] 9)).heap.size = w.heap.size + 4 := by simp
  obtain ⟨W0, hW0⟩ : ∃ W0, W0 = ((((w.alloc (.cells #[.string s] 9)).alloc (.cells #[.int .i64 0] 3)).alloc (.cells #[.bool false] 4)).alloc (.cells #[.string s] 9)) := ⟨_, rfl⟩
  rw [← hW0] at bS bK bI bT hB0 hz0 ⊢
  clear hW0
  refine wpIn_rangeT 9 rfl (by omega) (gf := 105) (lb := #[.pointer (some ⟨w.heap.size + 1 + 1 + 1, 0, none⟩)]) rfl trivial (enters_of Try.func105 (by kernel_rfl) rfl)
    (tokens_seq 3 (by omega) (w.heap.size + 1 + 1 + 1) s hs W0 bT (max_below hB0 HM.out)) (Below.refl _ _) (fun _ => rfl)
    (fun pre W => pre = [] ∧ ((Boxed W w.heap.size 9 (.string s) ∧ (Boxed W (w.heap.size + 1) 3 (.int .i64 0) ∧ Boxed W (w.heap.size + 1 + 1) 4 (.bool false))) ∧ Below w.heap.size w W))
    (fun c pre W => c = .ret ∧ ((Boxed W (w.heap.size + 1) 3 (.int .i64 r1) ∧ Boxed W (w.heap.size + 1 + 1) 4 (.bool r2)) ∧ Below w.heap.size w W))
    (AbT.and (AbT.pure _ _ (fun pre => pre = [])) (AbT.and (AbT.and (AbT.block _ _ (by omega)) (AbT.and (AbT.block _ _ (by omega)) (AbT.block _ _ (by omega)))) (below_ab _ _ _ (Nat.le_refl _) (by omega))))
    (fun c => AbT.and (AbT.pure _ _ (fun _ => c = .ret)) (AbT.and (AbT.and (AbT.block _ _ (by omega)) (AbT.block _ _ (by omega))) (below_ab _ _ _ (Nat.le_refl _) (by omega))))
    ⟨rfl, ⟨bS, bK, bI⟩, hB0⟩
    (fun x W0' a' W => ∃ Bx, w.heap.size + 1 + 1 < Bx ∧ Blk W Bx (tokB x.1) 26 ∧ a' = { tmps := #[.string s, .pointer (some ⟨w.heap.size, 0, none⟩), .pointer (some ⟨w.heap.size + 1, 0, none⟩), .pointer (some ⟨w.heap.size + 1 + 1, 0, none⟩), .pointer (some ⟨Bx, 0, none⟩), .int .i64 x.2, .string s, .func (.func 105) #[] #[.pointer (some ⟨w.heap.size + 1 + 1 + 1, 0, none⟩)], .agg (tokB x.1), .int .i64 x.2, undef, undef, undef, undef, undef, undef, undef, undef, undef, undef], defers := [] })
    (fun x W0' a' _ X Y row hs hg hr => by obtain ⟨Bx, g1, g2, g3⟩ := hs; exact ⟨Bx, g1, blk_ab (β := Unit) _ _ _ (by decide) () X Y row g2 hg hr, g3⟩)
    ?assign ?body ?done ?stop
  case assign =>
    rintro l pre x W K ⟨rfl, ⟨b0, b1, b2⟩, hB⟩ hK
    dsimp only [encT]
    gi_wp2
    have hlt := b2.lt
    exact hK _ _ ((KeepsOthers.alloc _ _).from _) (KpT.grown (World.grownBy_alloc W _ none) (by simp) (by omega)) ⟨trivial, ⟨b0.alloc _, b1.alloc _, b2.alloc _⟩, below_alloc hB _⟩ ⟨W.heap.size, hlt, World.alloc_heap_new W _, rfl⟩
  case body =>
    rintro l pre ⟨⟨k, tt, p, q, sp⟩, e⟩ a' Wp W hl ⟨r, hr⟩ ⟨rfl, ⟨b0, b1, b2⟩, hB⟩ ⟨Bx, hBx, bX, rfl⟩ hpr hkp
    have c0 := b0.cell
    have c1 := b1.cell
    have c2 := b2.cell
    have f1 := b1.frozen
    have f2 := b2.frozen
    have x0 : W.cell? ⟨Bx, 0, none⟩ = some (.int .i64 k) := bX.cell 0
    have x1 : W.cell? ⟨Bx, 1, none⟩ = some (.string tt) := bX.cell 1
    have HO := Aside0.mk (HR.out.symm.trans (oneT_cons (x := (⟨k, tt, p, q, sp⟩, e)) (pre := []) hpr))
    replace hpr := Aside0.mk hpr
    replace hkp := Aside0.mk hkp
    have fin : ∀ (Bq : Nat) (aq : Act) (u : Int) (z : Bool), u = r1 → z = r2 → ownPostG Bq (fun _ W' => KpT Wp W') (fun pre W => pre = [] ∧ ((Boxed W w.heap.size 9 (.string s) ∧ (Boxed W (w.heap.size + 1) 3 (.int .i64 0) ∧ Boxed W (w.heap.size + 1 + 1) 4 (.bool false))) ∧ Below w.heap.size w W))
        (fun c pre W => c = .ret ∧ ((Boxed W (w.heap.size + 1) 3 (.int .i64 r1) ∧ Boxed W (w.heap.size + 1 + 1) 4 (.bool r2)) ∧ Below w.heap.size w W)) [((⟨k, tt, p, q, sp⟩ : S26), e)] W .ret
        aq ((W.setCell ⟨w.heap.size + 1, 0, none⟩ (.int .i64 u)).setCell ⟨w.heap.size + 1 + 1, 0, none⟩ (.bool z)) := by
      rintro Bq aq u z rfl rfl
      exact ⟨((KeepsOthers.setCell _ _ _).trans (KeepsOthers.setCell _ _ _)).from _, rfl, ⟨(b1.set _).other (by omega) _, (b2.other (by omega) _).set _⟩, (hB.setCell (p := ⟨w.heap.size + 1, 0, none⟩) (by simp) _).setCell (p := ⟨w.heap.size + 1 + 1, 0, none⟩) (by show w.heap.size ≤ w.heap.size + 1 + 1; omega) _⟩
    have FIN := Aside0.mk fin
    clear fin
    by_cases he : e = 0
    · by_cases ht : tt = s
      · have HV := HO.out
        rw [if_pos ⟨he, by rw [ht]⟩] at HV
        have HV := Aside0.mk (Prod.mk.inj HV)
        subst he
        subst ht
        gi_wp2
        exact FIN.out _ _ _ _ HV.out.1.symm HV.out.2.symm
      · have hne : (tt.toList == s.toList) = false := beq_eq_false_iff_ne.mpr (fun h => ht (by rw [toList_L, toList_L] at h; exact ext_L h))
        have HV := HO.out
        rw [if_neg (fun h => ht (by have := h.2; rw [toList_L, toList_L] at this; exact ext_L this))] at HV
        have HV := Aside0.mk (Prod.mk.inj HV)
        subst he
        gi_wp2
        exact FIN.out _ _ _ _ HV.out.1.symm HV.out.2.symm
    · have he' : (e != 0) = true := bne_iff_ne.mpr he
      have HV := HO.out
      rw [if_neg (fun h => he h.1)] at HV
      have HV := Aside0.mk (Prod.mk.inj HV)
      gi_wp2
      exact FIN.out _ _ _ _ HV.out.1.symm HV.out.2.symm
  case done =>
    rintro D xs W hD hxs ⟨rfl, ⟨b0, b1, b2⟩, hB⟩ hK
    have c1 := b1.cell
    have c2 := b2.cell
    have f1 := b1.frozen
    have f2 := b2.frozen
    have HO := Aside0.mk (HR.out.symm.trans (oneT_nil hxs.symm))
    obtain ⟨e1, e2⟩ := Prod.mk.inj HO.out
    have HE1 := Aside0.mk e1
    have HE2 := Aside0.mk e2
    clear e1 e2
    gi_wp2
    have hKD : ((W.setCell ⟨w.heap.size + 1, 0, none⟩ (.int .i64 0)).setCell ⟨w.heap.size + 1 + 1, 0, none⟩ (.bool false)).heap[D]? = some (.deferred (some [])) :=
      (Below.heap_setCell _ _ _ _ (by show D ≠ w.heap.size + 1 + 1; omega)).trans ((Below.heap_setCell _ _ _ _ (by show D ≠ w.heap.size + 1; omega)).trans hK)
    have hBD : Below w.heap.size w ((W.setCell ⟨w.heap.size + 1, 0, none⟩ (.int .i64 0)).setCell ⟨w.heap.size + 1 + 1, 0, none⟩ (.bool false)) :=
      (hB.setCell (p := ⟨w.heap.size + 1, 0, none⟩) (by simp) _).setCell (p := ⟨w.heap.size + 1 + 1, 0, none⟩) (by show w.heap.size ≤ w.heap.size + 1 + 1; omega) _
    refine ⟨by simp, .inl ⟨_, _, rfl, run_takeDeferred hKD, ?_⟩⟩
    refine ⟨_, results_cells2 rfl _ _ (w.heap.size + 1) (w.heap.size + 1 + 1) (.int .i64 0) (.bool false) _ _ rfl ?_ Try.underlying3 rfl rfl ?_ Try.underlying4 rfl, ?_, ?_⟩
    · exact Boxed.cell (t := 3) ((World.putObj_heap_other (by omega)).trans ((b1.set _).other (by omega) _))
    · exact Boxed.cell (t := 4) ((World.putObj_heap_other (by omega)).trans ((b2.other (by omega) _).set _))
    · rw [HE1.out, HE2.out]
    · exact hBD.trans (belowK_b (w := w) (Nat.le_refl _) _ D _ _ (by omega) hKD rfl rfl)
  case stop =>
    rintro D c pre W hD hpre ⟨rfl, ⟨b1, b2⟩, hB⟩ hK
    gi_wp2
    refine ⟨by simp, .inl ⟨_, _, rfl, run_takeDeferred hK, ?_⟩⟩
    refine ⟨_, results_cells2 rfl _ _ (w.heap.size + 1) (w.heap.size + 1 + 1) (.int .i64 r1) (.bool r2) _ _ rfl ?_ Try.underlying3 rfl rfl ?_ Try.underlying4 rfl, rfl, ?_⟩
    · exact Boxed.cell (t := 3) ((World.putObj_heap_other (by omega)).trans b1)
    · exact Boxed.cell (t := 4) ((World.putObj_heap_other (by omega)).trans b2)
    · exact hB.trans (belowK_b (w := w) (Nat.le_refl _) _ D _ _ (by omega) hK rfl rfl)
theorem scan_One.calls (a0 : ByteArray) (r1 : Int) (r2 : Bool) (w : World) (h : scan_One.f a0 = some (r1, r2)) (HM : HasMax w := by first | assumption | exact max_below (Aside0.out (by assumption)) (by assumption)) :
    Calls Try.prog 51 #[.string a0] w fun e w' => e = .returned (.tuple #[.int .i64 r1, .bool r2]) ∧ Below w.heap.size w w' := by
  unfold scan_One.f at h
  split at h
  · rename_i hs
    exact one_main a0 hs r1 r2 ⟨Option.some.inj h⟩ w HM
  · simp at h
end Go.Proofs.Ytonfmnohmigjpaa.P
