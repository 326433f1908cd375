/- The contract of the iterator phys.pieces: it hands a loop the text's pieces, in order, till the loop says that it is enough. -/
import Derived.RangeFuncNested
import Derived.RangeFuncBound
import Derived.RangeFuncCalls
import Derived.RangeFuncLeaves
import Derived.Shelf.Abstract
import Derived.Shelf.RegionOpen
import Derived.WalkKit
import Derived.OwnWalkIn
import Derived.TacticsInMore
import Derived.LoopNIn
import Derived.LoopIn
import Derived.Test.YtonfmnohmigjpaaGH
import Derived.Test.YtonfmnohmigjpaaG32
namespace Go.Proofs.Ytonfmnohmigjpaa.P
open Go.RowKit Go.Shelf Go.Proofs.YtonfmnohmigjpaaW.PrintWords Go.Proofs.YtonfmnohmigjpaaW.PrintLast Go.Proofs.YtonfmnohmigjpaaW.PrintMore
attribute [local go_sem] Oper.semAt_some

/-- A round keeps the box in which the text lies. -/
def KpB (Bn : Nat) (A B : World) : Prop := B.heap[Bn]? = A.heap[Bn]?
theorem cell_heap {A B : World} {b o : Nat} (h : B.heap[b]? = A.heap[b]?) : B.cell? ⟨b, o, none⟩ = A.cell? ⟨b, o, none⟩ := by simp [World.cell?, h]
theorem KpB.t {Bn : Nat} {A B C : World} (h : KpB Bn A B) (k : KpB Bn B C) : KpB Bn A C := Eq.trans k h
theorem KpB.b {Bn : Nat} {w : World} (hb : Bn < w.heap.size) (W : World) (l : Nat) (o o' : Obj) (hl : w.heap.size ≤ l) (_ : W.heap[l]? = some o) (_ : o.isCells = false) (_ : o.isWalk = false) : KpB Bn W (W.putObj l o') :=
  World.putObj_heap_other (by omega)
def encP (x : S55 × Bool) : Array Value := #[.agg #[.int .u8 x.1.f0, .int .i64 x.1.f1, .int .i64 x.1.f2], .bool x.2]

set_option maxRecDepth 100000 in
set_option maxHeartbeats 1000000 in
theorem pieces1_in (n : Nat) (hn : 1 ≤ n) (l Bn B : Nat) (s : ByteArray) (hs : s.size ≤ 140737488351232) (J Jx : List (S55 × Bool) → World → Prop) (hJa : AbidesFrom B J)
    (hY : ∀ pre x W, J pre W → pre.length < (piecesF 0 (L s)).length → YieldAt Fence.wide (n - 1) Try.prog l (encP x) W fun e W' =>
      (e = .returned (.bool true) ∧ J (pre ++ [x]) W' ∧ KpB Bn W W') ∨ (e = .returned (.bool false) ∧ Jx (pre ++ [x]) W'))
    (W : World) (hc : W.cell? ⟨Bn, 0, none⟩ = some (.string s)) (h0 : J [] W) :
    CallsIn Fence.wide n Try.prog 102 #[.func (.yield l) #[] #[], .pointer (some ⟨Bn, 0, none⟩)] W fun e W' => (∃ v, e = .returned v) ∧
      ((∃ ys, ys = piecesF 0 (L s) ∧ J ys W') ∨ (∃ pre, pre <+: piecesF 0 (L s) ∧ Jx pre W')) := by
  refine callsIn_of_wp Try.func102 rfl trivial ?_ rfl
  simp only [Try.ntmps102, List.size_toArray, List.length_cons, List.length_nil, Nat.reduceAdd, Nat.reduceSub, Array.replicate_succ, Array.replicate_zero, List.push_toArray, List.append_toArray, List.nil_append, List.cons_append]
  have HJa := Aside0.mk hJa
  have HY := Aside0.mk hY
  clear hJa hY
  gi_wp2
  gi_loopw [3] (fun v3 wr => ∃ (i : Nat) (pre : List (S55 × Bool)), v3 = .int .i64 i ∧ i ≤ s.size ∧ Aside0 (pre ++ piecesF i ((L s).drop i) = piecesF 0 (L s)) ∧ Aside0 (J pre wr) ∧ wr.cell? ⟨Bn, 0, none⟩ = some (.string s))
    (fun v3 _ => s.size - (intOf v3).toNat)
  case atStart => exact ⟨0, [], rfl, Nat.zero_le _, ⟨by simp⟩, ⟨h0⟩, hc⟩
  case round =>
    obtain ⟨i, pre, rfl, hi, HP, HJ, hcr⟩ := hrel
    by_cases hlt : i < s.size
    · have HD := Aside0.mk (drop_at s i hlt)
      have H1 := Aside0.mk (one_f s i hlt hs 0)
      have HL := Aside0.mk (lenP_le (at_ s i) ((L s).drop (i + 1)))
      have HO := oneL_le (at_ s i) ((L s).drop (i + 1))
      have hsz : ((L s).drop i).length = s.size - i := by rw [List.length_drop, L_length]
      have hC := piecesF_cons i (at_ s i) ((L s).drop (i + 1))
      rw [← HD.out, hsz] at HO
      rw [← HD.out] at hC
      have hn1 := HO.1
      have hn2 := HO.2
      clear HO hsz
      have hS : isSpl ((L s).drop i) = (decide ((oneL ((L s).drop i)).1 = 92) && (((L s).drop i).drop (oneL ((L s).drop i)).2).head? == some 10) := rfl
      have hM : lenP ((L s).drop i) = if isSpl ((L s).drop i) then (oneL ((L s).drop i)).2 + 1 else (oneL ((L s).drop i)).2 := rfl
      rw [List.drop_drop] at hS
      generalize (oneL ((L s).drop i)).1 = b at *
      generalize (oneL ((L s).drop i)).2 = m at *
      have hx : ∀ z : Bool, isSpl ((L s).drop i) = z → pre ++ ((⟨(b.toNat : Int), (i : Int), (((if z then m + 1 else m) : Nat) : Int)⟩, z) :: piecesF (i + (if z then m + 1 else m)) ((L s).drop (i + (if z then m + 1 else m)))) = piecesF 0 (L s) := by
        intro z hz
        have := HP.out
        rw [hC, hM, hz, List.drop_drop] at this
        exact this
      have HX := Aside0.mk hx
      have HS := Aside0.mk hS
      clear hx hS hC hM
      have hlen : ∀ (q : S55 × Bool) (r : List (S55 × Bool)), pre ++ q :: r = piecesF 0 (L s) → pre.length < (piecesF 0 (L s)).length := by
        intro q r e
        rw [← e]; simp
      have HE := Aside0.mk hlen
      clear hlen
      have hbig : (i : Int) + (m : Int) ≤ 140737488351232 := by omega
      by_cases c1 : b = 92
      · have h92 : ((b.toNat : Int) == 92) = true := beq_iff_eq.mpr ((u8_eq _ 92 92 rfl (by omega)).2 c1)
        by_cases c2 : i + m < s.size
        · have hg := get_at s (i + m) c2
          have hd := drop_at s (i + m) c2
          by_cases c3 : at_ s (i + m) = 10
          · have h10 : (((s[i + m]'c2).toNat : Int) == 10) = true := beq_iff_eq.mpr ((u8_eq _ 10 10 rfl (by omega)).2 (hg.trans c3))
            have hz := HX.out true (by rw [HS.out, hd, c1, c3]; rfl)
            simp only [if_true] at hz
            have hz' : pre ++ (⟨(b.toNat : Int), (i : Int), (m : Int) + 1⟩, true) :: piecesF (i + (m + 1)) ((L s).drop (i + (m + 1))) = piecesF 0 (L s) := hz
            have HZ := Aside0.mk hz'
            have hl0 := HE.out _ _ hz'
            clear hz hz' hg hd c1 c3
            gi_wp2_with (refine ⟨trivial, ?_⟩; gi_at_call 103; refine (callsIn_wide.2 (phys_one.calls (0 + 1) s (i : Int) _ _ _ H1.out)).mono ?_; rintro e w1 ⟨rfl, ⟨nd, rfl⟩⟩; obtain ⟨fn, tmps, assign, body, hy, hR⟩ := HY.out pre (⟨(b.toNat : Int), (i : Int), (m : Int) + 1⟩, true) (wr.drewN nd) (HJa.out pre wr (wr.drewN nd) none HJ.out (grown_of_below (pw_below_drewN (Below.refl _ _) nd) _) (by simp)) hl0; dsimp only [encP] at hy)
            refine hR.mono ?_
            rintro e W3 (⟨rfl, hJ3, hk3⟩ | ⟨rfl, hJx3⟩)
            · have hq3 : W3.cell? ⟨Bn, 0, none⟩ = some (.string s) := (cell_heap hk3).trans hcr
              have HJ3 := Aside0.mk hJ3
              clear hJ3 hk3 hR hy
              gi_wp2
              go_roundw
              case rel => exact ⟨i + (m + 1), pre ++ [(⟨(b.toNat : Int), (i : Int), (m : Int) + 1⟩, true)], by go_num, by omega, ⟨by rw [← HZ.out]; simp⟩, HJ3, hq3⟩
              case measure => simp [intOf]; omega
            · have HX3 := Aside0.mk hJx3
              clear hJx3 hR hy
              gi_wp2
              refine bodyPost_ret (results_none rfl _ _ _) rfl ?_
              exact ⟨⟨_, rfl⟩, .inr ⟨_, ⟨_, by rw [← HZ.out, List.append_assoc]; rfl⟩, HX3.out⟩⟩
          · have h10 : (((s[i + m]'c2).toNat : Int) == 10) = false := beq_eq_false_iff_ne.mpr (fun e => c3 (hg.symm.trans ((u8_eq _ 10 10 rfl (by omega)).1 e)))
            have hz := HX.out false (by rw [HS.out]; rw [hd]; simp [c3])
            simp only [if_neg (show ¬ (false = true) by decide)] at hz
            have HZ := Aside0.mk hz
            have hl0 := HE.out _ _ hz
            clear hz hg hd c1 c3
            gi_wp2_with (refine ⟨trivial, ?_⟩; gi_at_call 103; refine (callsIn_wide.2 (phys_one.calls (0 + 1) s (i : Int) _ _ _ H1.out)).mono ?_; rintro e w1 ⟨rfl, ⟨nd, rfl⟩⟩; obtain ⟨fn, tmps, assign, body, hy, hR⟩ := HY.out pre (⟨(b.toNat : Int), (i : Int), (m : Int)⟩, false) (wr.drewN nd) (HJa.out pre wr (wr.drewN nd) none HJ.out (grown_of_below (pw_below_drewN (Below.refl _ _) nd) _) (by simp)) hl0; dsimp only [encP] at hy)
            refine hR.mono ?_
            rintro e W3 (⟨rfl, hJ3, hk3⟩ | ⟨rfl, hJx3⟩)
            · have hq3 : W3.cell? ⟨Bn, 0, none⟩ = some (.string s) := (cell_heap hk3).trans hcr
              have HJ3 := Aside0.mk hJ3
              clear hJ3 hk3 hR hy
              gi_wp2
              go_roundw
              case rel => exact ⟨i + m, pre ++ [(⟨(b.toNat : Int), (i : Int), (m : Int)⟩, false)], by go_num, by omega, ⟨by rw [← HZ.out]; simp⟩, HJ3, hq3⟩
              case measure => simp [intOf]; omega
            · have HX3 := Aside0.mk hJx3
              clear hJx3 hR hy
              gi_wp2
              refine bodyPost_ret (results_none rfl _ _ _) rfl ?_
              exact ⟨⟨_, rfl⟩, .inr ⟨_, ⟨_, by rw [← HZ.out, List.append_assoc]; rfl⟩, HX3.out⟩⟩
        · have c2' : ¬ (i : Int) + (m : Int) < (s.size : Int) := by omega
          have hz := HX.out false (by rw [HS.out]; rw [List.drop_eq_nil_of_le (by rw [L_length]; omega)]; simp)
          simp only [if_neg (show ¬ (false = true) by decide)] at hz
          have HZ := Aside0.mk hz
          have hl0 := HE.out _ _ hz
          clear hz c1 c2
          gi_wp2_with (refine ⟨trivial, ?_⟩; gi_at_call 103; refine (callsIn_wide.2 (phys_one.calls (0 + 1) s (i : Int) _ _ _ H1.out)).mono ?_; rintro e w1 ⟨rfl, ⟨nd, rfl⟩⟩; obtain ⟨fn, tmps, assign, body, hy, hR⟩ := HY.out pre (⟨(b.toNat : Int), (i : Int), (m : Int)⟩, false) (wr.drewN nd) (HJa.out pre wr (wr.drewN nd) none HJ.out (grown_of_below (pw_below_drewN (Below.refl _ _) nd) _) (by simp)) hl0; dsimp only [encP] at hy)
          refine hR.mono ?_
          rintro e W3 (⟨rfl, hJ3, hk3⟩ | ⟨rfl, hJx3⟩)
          · have hq3 : W3.cell? ⟨Bn, 0, none⟩ = some (.string s) := (cell_heap hk3).trans hcr
            have HJ3 := Aside0.mk hJ3
            clear hJ3 hk3 hR hy
            gi_wp2
            go_roundw
            case rel => exact ⟨i + m, pre ++ [(⟨(b.toNat : Int), (i : Int), (m : Int)⟩, false)], by go_num, by omega, ⟨by rw [← HZ.out]; simp⟩, HJ3, hq3⟩
            case measure => simp [intOf]; omega
          · have HX3 := Aside0.mk hJx3
            clear hJx3 hR hy
            gi_wp2
            refine bodyPost_ret (results_none rfl _ _ _) rfl ?_
            exact ⟨⟨_, rfl⟩, .inr ⟨_, ⟨_, by rw [← HZ.out, List.append_assoc]; rfl⟩, HX3.out⟩⟩
      · have h92 : ((b.toNat : Int) == 92) = false := beq_eq_false_iff_ne.mpr (fun e => c1 ((u8_eq _ 92 92 rfl (by omega)).1 e))
        have hz := HX.out false (by rw [HS.out]; simp [c1])
        simp only [if_neg (show ¬ (false = true) by decide)] at hz
        have HZ := Aside0.mk hz
        have hl0 := HE.out _ _ hz
        clear hz c1
        gi_wp2_with (refine ⟨trivial, ?_⟩; gi_at_call 103; refine (callsIn_wide.2 (phys_one.calls (0 + 1) s (i : Int) _ _ _ H1.out)).mono ?_; rintro e w1 ⟨rfl, ⟨nd, rfl⟩⟩; obtain ⟨fn, tmps, assign, body, hy, hR⟩ := HY.out pre (⟨(b.toNat : Int), (i : Int), (m : Int)⟩, false) (wr.drewN nd) (HJa.out pre wr (wr.drewN nd) none HJ.out (grown_of_below (pw_below_drewN (Below.refl _ _) nd) _) (by simp)) hl0; dsimp only [encP] at hy)
        refine hR.mono ?_
        rintro e W3 (⟨rfl, hJ3, hk3⟩ | ⟨rfl, hJx3⟩)
        · have hq3 : W3.cell? ⟨Bn, 0, none⟩ = some (.string s) := (cell_heap hk3).trans hcr
          have HJ3 := Aside0.mk hJ3
          clear hJ3 hk3 hR hy
          gi_wp2
          go_roundw
          case rel => exact ⟨i + m, pre ++ [(⟨(b.toNat : Int), (i : Int), (m : Int)⟩, false)], by go_num, by omega, ⟨by rw [← HZ.out]; simp⟩, HJ3, hq3⟩
          case measure => simp [intOf]; omega
        · have HX3 := Aside0.mk hJx3
          clear hJx3 hR hy
          gi_wp2
          refine bodyPost_ret (results_none rfl _ _ _) rfl ?_
          exact ⟨⟨_, rfl⟩, .inr ⟨_, ⟨_, by rw [← HZ.out, List.append_assoc]; rfl⟩, HX3.out⟩⟩
    · have hie : i = s.size := by omega
      subst hie
      gi_wp2
      go_end0
      refine ⟨⟨_, rfl⟩, .inl ⟨pre, ?_, HJ.out⟩⟩
      have := HP.out
      rwa [List.drop_eq_nil_of_le (by rw [L_length]; omega), piecesF_nil, List.append_nil] at this
set_option maxHeartbeats 1000000 in
/-- pieces(s): the text is boxed; the function value captures the box. -/
theorem pieces_in (n : Nat) (s : ByteArray) (w : World) :
    CallsIn Fence.wide n Try.prog 84 #[.string s] w fun e w' => e = .returned (.func (.func 102) #[] #[.pointer (some ⟨w.heap.size, 0, none⟩)]) ∧ w' = w.alloc (.cells #[.string s] 9) := by
  refine callsIn_of_wp Try.func84 rfl trivial ?_ rfl
  simp only [Try.ntmps84, List.size_toArray, List.length_cons, List.length_nil, Nat.reduceAdd, Nat.reduceSub, Array.replicate_succ, Array.replicate_zero, List.push_toArray, List.append_toArray, List.nil_append, List.cons_append]
  gi_wp2
  go_ret
  exact ⟨rfl, rfl⟩
/-- What pieces(s) hands back gives all of the text's pieces, in order; or the first ones, where a round has said 'no more'. -/
theorem pieces_stops (n : Nat) (hn : 1 ≤ n) (Bn : Nat) (s : ByteArray) (hs : s.size ≤ 140737488351232) (w : World) (hBn : Bn < w.heap.size) (hc : w.cell? ⟨Bn, 0, none⟩ = some (.string s)) :
    SeqStopsK Fence.wide n Try.prog 102 #[.pointer (some ⟨Bn, 0, none⟩)] encP (KpB Bn) (fun ys => ys = piecesF 0 (L s)) (fun pre => pre <+: piecesF 0 (L s)) (piecesF 0 (L s)).length w := fun l J Jx W hW hJ _ hY h0 =>
  pieces1_in n hn l Bn W.heap.size s hs J Jx hJ hY W ((hW.cell (p := ⟨Bn, 0, none⟩) hBn).trans hc) h0
end Go.Proofs.Ytonfmnohmigjpaa.P
