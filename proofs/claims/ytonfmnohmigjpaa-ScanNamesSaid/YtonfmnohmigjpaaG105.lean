/- The contract of the iterator scan.tokens: it hands a loop the text's tokens, in order; a refusal comes last. -/
import Derived.Test.YtonfmnohmigjpaaGE
import Derived.Test.YtonfmnohmigjpaaRt
namespace Go.Proofs.Ytonfmnohmigjpaa.P
open Go.RowKit Go.Shelf Go.Proofs.YtonfmnohmigjpaaW.PrintWords Go.Proofs.YtonfmnohmigjpaaW.PrintLast
attribute [local go_sem] Oper.semAt_some

def encT (x : S26 × Int) : Array Value := #[.agg #[.int .i64 x.1.f0, .string x.1.f1, .int .i64 x.1.f2, .int .i64 x.1.f3, .bool x.1.f4], .int .i64 x.2]
def lineV (line : List ByteArray) : List Value := line.map Value.string

theorem own_slice {w : World} {base : Nat} {e : TypeId} {size : Nat} {v : Value} {n : Nat} {xs : List Value} (h : w.ownsRow base e size v n xs) : ∃ A0 c0, v = .slice A0 n c0 := by
  rcases h.2 with ⟨h, h'⟩ | ⟨g, cap, cur, h, _⟩
  · exact ⟨none, 0, by rw [h, h']⟩
  · exact ⟨_, _, h⟩

theorem row_obj {w : World} {base : Nat} {e : TypeId} {size : Nat} {v : Value} {n : Nat} {xs : List Value} (h : w.ownsRow base e size v n xs) (k : Nat) (hk : v.ownBlock = some k) : base ≤ k ∧ ∃ cur, w.heap[k]? = some (.cells cur e (0, 0)) := by
  rcases h.2 with ⟨rfl, _⟩ | ⟨g, cap, cur, rfl, hb, hg, _⟩
  · simp [Value.ownBlock] at hk
  · obtain rfl : g = k := by simpa [Value.ownBlock] using hk
    exact ⟨hb, cur, hg⟩
theorem box_kp {A C : World} (h : KpT A C) {Bn : Nat} {v : Value} (hb : Boxed A Bn 9 v) : Boxed C Bn 9 v := (h Bn (.inr ⟨_, hb, rfl⟩)).trans hb
theorem max_kp {A C : World} (h : KpT A C) (hb : HasMax A) : HasMax C := by
  obtain ⟨m, hb⟩ := hb
  exact ⟨m, (cell_heap (h 0 (.inl rfl))).trans hb⟩
theorem own_kp {A C : World} (h : KpT A C) {base : Nat} {v : Value} {n : Nat} {xs : List Value} (hb : A.ownsRow base 9 1 v n xs) : C.ownsRow base 9 1 v n xs :=
  own_move hb (fun k hk => by obtain ⟨_, cur, hc⟩ := row_obj hb k hk; exact h k (.inr ⟨_, hc, rfl⟩))
theorem text_ex (s : ByteArray) (i m : Nat) : textOf ((L s).drop i) (m : Int) = s.extract i (i + m) := by
  unfold textOf
  rw [Int.toNat_natCast, ← mk_L (s.extract i (i + m)), L_extract, Nat.add_sub_cancel_left]
def tokB (x : S26) : Array Value := #[.int .i64 x.f0, .string x.f1, .int .i64 x.f2, .int .i64 x.f3, .bool x.f4]
theorem grown_trans {A B C : World} {row : Option Nat} (h : A.grownBy B row) (k : B.grownBy C row) : A.grownBy C row :=
  ⟨k.os.trans h.os, k.tape.trans h.tape, k.output.trans h.output, Nat.le_trans h.size k.size, fun i hi hr => (k.block i (Nat.lt_of_lt_of_le hi h.size) hr).trans (h.block i hi hr)⟩
theorem grown_alloc {A C : World} {o : Obj} {row : Option Nat} (k : (A.alloc o).grownBy C row) : A.grownBy C row :=
  grown_trans (grown_of_below (below_alloc (Below.refl _ A) o) row) k
theorem tokB_stays (x : S26) : stays (.cells (tokB x) 26 (0, 0)) = true := rfl
theorem max_below {A C : World} (h : Below A.heap.size A C) (hb : HasMax A) : HasMax C := by
  obtain ⟨m, hb⟩ := hb
  exact ⟨m, pw_cell_below h hb⟩

set_option maxRecDepth 100000 in
set_option maxHeartbeats 2000000 in
theorem tokens1_in (n : Nat) (hn : 1 ≤ n) (l Bn B : Nat) (s : ByteArray) (hs : s.size ≤ 1000000) (J Jx : List (S26 × Int) → World → Prop) (hJa : AbT B 9 J)
    (hY : ∀ pre x W, J pre W → pre ++ [x] <+: toksF 0 false [] (L s) → YieldAt Fence.wide (n - 1) Try.prog l (encT x) W fun e W' =>
      (e = .returned (.bool true) ∧ J (pre ++ [x]) W' ∧ KpT W W') ∨ (e = .returned (.bool false) ∧ Jx (pre ++ [x]) W'))
    (W : World) (hB : B ≤ W.heap.size) (hBB : Bn < B) (hc : Boxed W Bn 9 (.string s)) (hm : HasMax W) (h0 : J [] W) :
    CallsIn Fence.wide n Try.prog 105 #[.func (.yield l) #[] #[], .pointer (some ⟨Bn, 0, none⟩)] W fun e W' => (∃ v, e = .returned v) ∧
      ((∃ ys, ys = toksF 0 false [] (L s) ∧ J ys W') ∨ (∃ pre, pre <+: toksF 0 false [] (L s) ∧ Jx pre W')) := by
  refine callsIn_of_wp Try.func105 rfl trivial ?_ rfl
  simp only [Try.ntmps105, List.size_toArray, List.length_cons, List.length_nil, Nat.reduceAdd, Nat.reduceSub, Array.replicate_succ, Array.replicate_zero, List.push_toArray, List.append_toArray, List.nil_append, List.cons_append]
  have HJa := Aside0.mk hJa
  have HY := Aside0.mk hY
  clear hJa hY
  gi_wp2
  gi_loopw [3, 4, 5] (fun v3 v4 v5 wr => ∃ (i : Nat) (pre : List (S26 × Int)) (sp : Bool) (line : List ByteArray) (v : Value), v3 = v ∧ v4 = .int .i64 i ∧ v5 = .bool sp ∧ i ≤ s.size ∧ line.length ≤ 3 ∧ Aside0 (pre ++ toksF i sp line ((L s).drop i) = toksF 0 false [] (L s)) ∧ Aside0 (J pre wr) ∧ Boxed wr Bn 9 (.string s) ∧ Aside0 (HasMax wr) ∧ Aside0 (wr.ownsRow B 9 1 v line.length (lineV line)) ∧ Aside0 (B ≤ wr.heap.size))
    (fun _ v4 _ _ => s.size - (intOf v4).toNat)
  case atStart => exact ⟨0, [], false, [], _, rfl, rfl, rfl, Nat.zero_le _, by simp, ⟨by simp⟩, ⟨h0⟩, hc, ⟨hm⟩, ⟨World.ownsRow_nil _ _ _ _⟩, ⟨hB⟩⟩
  case round =>
    obtain ⟨i, pre, sp, line, v, rfl, rfl, rfl, hi, hl3, HP, HJ, hcr, HM, HR, HBs⟩ := hrel
    have hq := hcr.cell
    have hBn := hcr.lt
    by_cases hlt : i < s.size
    · have HD := Aside0.mk (drop_at s i hlt)
      have hW := Aside0.mk (white_f (at_ s i))
      have hg := get_at s i hlt
      cases hwh : whtU (at_ s i) with
      | true =>
        rw [hwh] at hW
        gi_wp2_with (refine ⟨trivial, ?_⟩; gi_at_call 106; refine (callsIn_wide.2 (scan_white.calls ((at_ s i).toNat : Int) true _ hW.out)).mono ?_; rintro e w1 ⟨rfl, ⟨nd, rfl⟩⟩)
        go_roundw
        case rel =>
          refine ⟨i + 1, pre, true, line, _, rfl, by go_num, rfl, by omega, hl3, ⟨?_⟩, ⟨HJa.out pre wr _ none HJ.out (grown_of_below (pw_below_drewN (Below.refl _ _) nd) _) (by simp)⟩, hcr, ⟨HM.out⟩, ⟨HR.out⟩, ⟨HBs.out⟩⟩
          rw [← HP.out, HD.out, toksF_white _ _ _ _ _ hwh]
        case measure => simp [intOf]; omega
      | false =>
        rw [hwh] at hW
        have hz := size_extract s i (by omega)
        have hE : L (s.extract i s.size) = (L s).drop i := by
          rw [L_extract, List.take_of_length_le (by rw [List.length_drop, L_length]; omega)]
        have hok := first_ok ((L s).drop i) (by rw [HD.out]; simp) (namesU line)
        rw [List.length_drop, L_length] at hok
        have HF := Aside0.mk (fun (nm : Bool) (w : World) (h : HasMax w) => first_calls (s.extract i s.size) nm (by omega) (by omega) w h)
        rw [hE] at HF
        have HT := Aside0.mk (fun k n hf => toksF_tok i sp line (at_ s i) ((L s).drop (i + 1)) hwh k n hf)
        have HTe := Aside0.mk (fun k n e he hf => toksF_err i sp line (at_ s i) ((L s).drop (i + 1)) hwh k n e he hf)
        rw [← HD.out] at HT HTe
        by_cases h2 : line.length = 2
        · obtain ⟨a, b, hline⟩ : ∃ a b, line = [a, b] := by
            match line, h2 with
            | [a, b], _ => exact ⟨a, b, rfl⟩
          have hlt3 : line.length < 3 := by omega
          have hr2 := HR.out
          rw [show line.length = 1 + 1 from h2] at hr2
          obtain ⟨g, c0, hv⟩ := ownsRow_succ hr2
          rw [show 1 + 1 = 2 from rfl] at hv
          subst hv
          have x0 : wr.cell? ⟨g, 0, none⟩ = some (.string a) := by
            have := HR.out.cells (g := g) rfl 0 (.string a) (by rw [hline]; rfl)
            rwa [add_plain] at this
          have x1 : wr.cell? ⟨g, 1, none⟩ = some (.string b) := by
            have := HR.out.cells (g := g) rfl 1 (.string b) (by rw [hline]; rfl)
            rwa [add_plain] at this
          have hNN : namesU line = ((a.toList == [35] || a.toList == [37, 58]) && b.toList == incl) := by rw [hline]; rfl
          clear hr2
          have hline := Aside0.mk hline
          have h2 := Aside0.mk h2
          by_cases ca : a.toList = [35]
          · have ca' : (a.toList == [35]) = true := beq_iff_eq.mpr ca
            rw [ca', Bool.true_or, Bool.true_and] at hNN
            clear ca
            by_cases cb : b.toList = incl
            · have cb' : (b.toList == [105, 110, 99, 108, 117, 100, 101]) = true := beq_iff_eq.mpr cb
              have hN : namesU line = true := by rw [hNN, cb]; exact beq_self_eq_true _
              clear hNN cb
              obtain ⟨⟨k, m, e⟩, hp⟩ : ∃ p, firstI ((L s).drop i) (namesU line) = p := ⟨_, rfl⟩
              have HF' := Aside0.mk (HF.out (namesU line))
              rw [hp] at hok HF'
              rw [hN] at hp HT HTe HF'
              clear HF
              have HN := Aside0.mk hN
              clear hN
              rcases hok with ⟨rfl, hm0, hm1⟩ | ⟨rfl, rfl, he⟩
              · dsimp only at hm0 hm1
                obtain ⟨m, rfl⟩ : ∃ q : Nat, m = (q : Int) := ⟨m.toNat, by omega⟩
                have hb0 : i + m ≤ s.size := by omega
                have hb1 : (i : Int) + (m : Int) ≤ (s.size : Int) := by omega
                have hle : (i : Int) ≤ (i : Int) + (m : Int) := by omega
                have hge : (0 : Int) ≤ (i : Int) + (m : Int) := by omega
                have hj := HT.out k m hp
                clear HT HTe hp
                rw [text_ex] at hj
                have hx : pre ++ (⟨k, s.extract i (i + m), i, (i : Int) + (m : Int), sp⟩, (0 : Int)) :: toksF (i + m) false (lineN line k (s.extract i (i + m))) ((L s).drop (i + m)) = toksF 0 false [] (L s) := by
                  rw [← HP.out, hj, Int.toNat_natCast, List.drop_drop]; unfold tokOf; rw [text_ex]
                have hl0 : pre ++ [((⟨k, s.extract i (i + m), i, (i : Int) + (m : Int), sp⟩, 0) : S26 × Int)] <+: toksF 0 false [] (L s) := ⟨_, by rw [List.append_assoc]; exact hx⟩
                have HX := Aside0.mk hx
                clear hx hj
                gi_wp2_with (first
                  | (refine ⟨trivial, ?_⟩; gi_at_call 106; refine (callsIn_wide.2 (scan_white.calls ((at_ s i).toNat : Int) false _ hW.out)).mono ?_; rintro e w1 ⟨rfl, ⟨nd, rfl⟩⟩)
                  | (refine ⟨trivial, ?_⟩; gi_at_call 107; refine (callsIn_wide.2 (HF'.out _ (has_drewN HM.out _))).mono ?_; rintro e w2 ⟨rfl, hb2⟩; dsimp only [res3]; have hq2 : w2.cell? ⟨Bn, 0, none⟩ = some (.string s) := (hb2.cell (p := ⟨Bn, 0, none⟩) hBn).trans hq
                     have hb3 : Below wr.heap.size wr (w2.alloc (.cells (tokB ⟨k, s.extract i (i + m), i, (i : Int) + (m : Int), sp⟩) 26)) := below_alloc (below_step (pw_below_drewN (Below.refl _ _) nd) hb2) _
                     have hB3 := Aside0.mk hb3
                     have hs3 := hb3.size
                     obtain ⟨fn, tmps, assign, body, hy, hR⟩ := HY.out pre (⟨k, s.extract i (i + m), i, (i : Int) + (m : Int), sp⟩, 0) _ (HJa.out pre wr _ none HJ.out (grown_of_below hb3 none) (by simp)) hl0
                     have hB2 := Aside0.mk hb2
                     have hT3 : (w2.alloc (.cells (tokB ⟨k, s.extract i (i + m), i, (i : Int) + (m : Int), sp⟩) 26)).heap[w2.heap.size]? = some (.cells (tokB ⟨k, s.extract i (i + m), i, (i : Int) + (m : Int), sp⟩) 26 (0, 0)) := World.alloc_heap_new w2 _
                     have hT3 := Aside0.mk hT3
                     clear hb2 hb3
                     dsimp only [encT, tokB] at hy))
                refine hR.mono ?_
                rintro e W3 (⟨rfl, hJ3, hk3⟩ | ⟨rfl, hJx3⟩)
                · have hq3 : Boxed W3 Bn 9 (.string s) := box_kp hk3 ((hB3.out.block Bn hBn).trans hcr)
                  have hM3 := Aside0.mk (max_kp hk3 (max_below hB3.out HM.out))
                  have hR3 := Aside0.mk (own_kp hk3 (own_move HR.out (fun b hb => hB3.out.block b (own_lt HR.out b hb))))
                  have hT4 := (hk3 w2.heap.size (.inr ⟨_, hT3.out, tokB_stays _⟩)).trans hT3.out
                  have hS3 : B ≤ W3.heap.size := by
                    have h1 := (Array.getElem?_eq_some_iff.1 hT4).1
                    have h2 := HBs.out
                    simp at hs3
                    omega
                  have ht1 : W3.cell? ⟨w2.heap.size, 1, none⟩ = some (.string (s.extract i (i + m))) := by simp [World.cell?, hT4, tokB]
                  have HS3 := Aside0.mk hS3
                  have HJ3 := Aside0.mk hJ3
                  clear hJ3 hk3 hR hy hT4 hS3 hs3
                  by_cases k9 : k = 9
                  · subst k9
                    gi_wp2
                    go_roundw
                    case rel => exact ⟨i + m, pre ++ [(⟨9, s.extract i (i + m), i, (i : Int) + (m : Int), sp⟩, 0)], false, [], _, rfl, by go_num, rfl, hb0, by simp, ⟨by rw [← HX.out, List.append_assoc]; rfl⟩, HJ3, hq3, hM3, ⟨World.ownsRow_nil _ _ _ _⟩, HS3⟩
                    case measure => simp [intOf]; omega
                  · have k9' : (k == 9) = false := beq_eq_false_iff_ne.mpr k9
                    by_cases k8 : k = 8 ∨ ¬ line.length < 3
                    · have hN3 : lineN line k (s.extract i (i + m)) = line := by
                        unfold lineN
                        rw [if_neg k9, if_neg (by rintro ⟨h1, h2⟩; rcases k8 with k8 | k8 <;> contradiction)]
                      rw [hN3] at HX
                      rcases k8 with rfl | k8
                      all_goals first
                        | (exfalso; omega)
                        | (gi_wp2
                           all_goals exact ⟨⟨i + m, _, false, line, _, rfl, by go_num, rfl, hb0, hl3, ⟨by rw [← HX.out, List.append_assoc]; rfl⟩, HJ3, hq3, hM3, hR3, HS3⟩, by simp [intOf]; omega⟩)
                    · rw [not_or] at k8
                      have k8' : (k != 8) = true := bne_iff_ne.mpr k8.1
                      have k3 : line.length < 3 := by omega
                      have hN3 : lineN line k (s.extract i (i + m)) = line ++ [s.extract i (i + m)] := by
                        unfold lineN
                        rw [if_neg k9, if_pos ⟨k8.1, k3⟩]
                      rw [hN3] at HX
                      have k3' : (line.length : Int) < 3 := by omega
                      obtain ⟨i0, hi0, hz0, hz1, hz2⟩ := info_parts info9
                      gi_wp2_with (gi_at_builtin; go_must (refine wpListIn_append_full _ rfl _ _ 82 rfl B 9 i0 _ 1 16 Try.underlying82 hi0 hz0 hz1 hz2 rfl (by decide) _ _ _ rfl (hR3.out.alloc _) ⟨W3.heap.size, 0, none⟩ 1 1 [.string (s.extract i (i + m))] rfl rfl (cells_new _ _ _) (by simp [Value.oneCell']) (by unfold maxLen; omega) (by omega) (by have := HS3.out; simp; omega) ?_); intro v' w3 hown' hgrow _)
                      go_roundw
                      case rel =>
                        have hG := grown_alloc hgrow
                        have hrow := fun r e => (row_obj hR3.out r e).1
                        refine ⟨i + m, pre ++ [(⟨k, s.extract i (i + m), i, (i : Int) + (m : Int), sp⟩, 0)], false, line ++ [s.extract i (i + m)], v', rfl, by go_num, rfl, hb0, by simp; omega, ⟨by rw [← HX.out, List.append_assoc]; rfl⟩, ⟨?_⟩, ?_, ⟨?_⟩, ⟨?_⟩, ⟨?_⟩⟩
                        · exact HJa.out _ W3 w3 _ HJ3.out hG (fun r e => by obtain ⟨h1, cur, h2⟩ := row_obj hR3.out r e; exact ⟨h1, _, h2, .inr ⟨_, _, rfl⟩⟩)
                        · exact hq3.kept hG (fun e => by have := hrow Bn e.symm; omega)
                        · obtain ⟨mx, hmx⟩ := hM3.out
                          exact ⟨mx, hG.cell hmx (fun e => by have := hrow 0 e.symm; omega)⟩
                        · rw [List.length_append, List.length_singleton]
                          unfold lineV at *
                          rw [List.map_append]
                          exact hown'
                        · have h1 := hgrow.size
                          have h2 := HS3.out
                          simp at h1
                          omega
                      case measure => simp [intOf]; omega
                · have HX3 := Aside0.mk hJx3
                  clear hJx3 hR hy
                  gi_wp2
                  refine bodyPost_ret (results_none rfl _ _ _) rfl ?_
                  exact ⟨⟨_, rfl⟩, .inr ⟨_, ⟨_, by rw [← HX.out, List.append_assoc]; rfl⟩, HX3.out⟩⟩
              · have ht0 : textOf ((L s).drop i) 0 = ByteArray.empty := rfl
                have hx : ∀ e', e = e' → e' ≠ 0 → pre ++ [(⟨0, ByteArray.empty, i, (i : Int), sp⟩, e')] = toksF 0 false [] (L s) := by
                  rintro e' rfl he'
                  rw [← HP.out, HTe.out 0 0 e he' hp]
                  unfold tokOf
                  rw [ht0]
                  simp
                have HX := Aside0.mk hx
                clear hx ht0 HT HTe hp
                dsimp only at he
                have he0 : e ≠ 0 := by omega
                have he' : (e != 0) = true := bne_iff_ne.mpr he0
                have hx := HX.out _ rfl he0
                have hl0 : pre ++ [((⟨0, ByteArray.empty, i, (i : Int), sp⟩, e) : S26 × Int)] <+: toksF 0 false [] (L s) := ⟨[], by rw [List.append_nil]; exact hx⟩
                have HX := Aside0.mk hx
                clear hx
                gi_wp2_with (first
                  | (refine ⟨trivial, ?_⟩; gi_at_call 106; refine (callsIn_wide.2 (scan_white.calls ((at_ s i).toNat : Int) false _ hW.out)).mono ?_; rintro e1 w1 ⟨rfl, ⟨nd, rfl⟩⟩)
                  | (refine ⟨trivial, ?_⟩; gi_at_call 107; refine (callsIn_wide.2 (HF'.out _ (has_drewN HM.out _))).mono ?_; rintro e2 w2 ⟨rfl, hb2⟩; dsimp only [res3]; have hq2 : w2.cell? ⟨Bn, 0, none⟩ = some (.string s) := (hb2.cell (p := ⟨Bn, 0, none⟩) hBn).trans hq
                     have hb3 : Below wr.heap.size wr (w2.alloc (.cells (tokB ⟨0, ByteArray.empty, i, (i : Int), sp⟩) 26)) := below_alloc (below_step (pw_below_drewN (Below.refl _ _) nd) hb2) _
                     obtain ⟨fn, tmps, assign, body, hy, hR⟩ := HY.out pre (⟨0, ByteArray.empty, i, (i : Int), sp⟩, e) _ (HJa.out pre wr _ none HJ.out (grown_of_below hb3 none) (by simp)) hl0
                     clear hb2 hb3
                     dsimp only [encT, tokB] at hy))
                refine hR.mono ?_
                rintro e3 W3 (⟨rfl, hJ3, hk3⟩ | ⟨rfl, hJx3⟩)
                · have HJ3 := Aside0.mk hJ3
                  clear hJ3 hk3 hR hy
                  gi_wp2
                  refine bodyPost_ret (results_none rfl _ _ _) rfl ?_
                  exact ⟨⟨_, rfl⟩, .inl ⟨_, HX.out, HJ3.out⟩⟩
                · have HX3 := Aside0.mk hJx3
                  clear hJx3 hR hy
                  gi_wp2
                  refine bodyPost_ret (results_none rfl _ _ _) rfl ?_
                  exact ⟨⟨_, rfl⟩, .inr ⟨_, ⟨[], by rw [List.append_nil]; exact HX.out⟩, HX3.out⟩⟩
            · have cb' : (b.toList == [105, 110, 99, 108, 117, 100, 101]) = false := beq_eq_false_iff_ne.mpr cb
              have hN : namesU line = false := by rw [hNN, show (b.toList == incl) = false from cb']
              clear hNN cb
              obtain ⟨⟨k, m, e⟩, hp⟩ : ∃ p, firstI ((L s).drop i) (namesU line) = p := ⟨_, rfl⟩
              have HF' := Aside0.mk (HF.out (namesU line))
              rw [hp] at hok HF'
              rw [hN] at hp HT HTe HF'
              clear HF
              have HN := Aside0.mk hN
              clear hN
              rcases hok with ⟨rfl, hm0, hm1⟩ | ⟨rfl, rfl, he⟩
              · dsimp only at hm0 hm1
                obtain ⟨m, rfl⟩ : ∃ q : Nat, m = (q : Int) := ⟨m.toNat, by omega⟩
                have hb0 : i + m ≤ s.size := by omega
                have hb1 : (i : Int) + (m : Int) ≤ (s.size : Int) := by omega
                have hle : (i : Int) ≤ (i : Int) + (m : Int) := by omega
                have hge : (0 : Int) ≤ (i : Int) + (m : Int) := by omega
                have hj := HT.out k m hp
                clear HT HTe hp
                rw [text_ex] at hj
                have hx : pre ++ (⟨k, s.extract i (i + m), i, (i : Int) + (m : Int), sp⟩, (0 : Int)) :: toksF (i + m) false (lineN line k (s.extract i (i + m))) ((L s).drop (i + m)) = toksF 0 false [] (L s) := by
                  rw [← HP.out, hj, Int.toNat_natCast, List.drop_drop]; unfold tokOf; rw [text_ex]
                have hl0 : pre ++ [((⟨k, s.extract i (i + m), i, (i : Int) + (m : Int), sp⟩, 0) : S26 × Int)] <+: toksF 0 false [] (L s) := ⟨_, by rw [List.append_assoc]; exact hx⟩
                have HX := Aside0.mk hx
                clear hx hj
                gi_wp2_with (first
                  | (refine ⟨trivial, ?_⟩; gi_at_call 106; refine (callsIn_wide.2 (scan_white.calls ((at_ s i).toNat : Int) false _ hW.out)).mono ?_; rintro e w1 ⟨rfl, ⟨nd, rfl⟩⟩)
                  | (refine ⟨trivial, ?_⟩; gi_at_call 107; refine (callsIn_wide.2 (HF'.out _ (has_drewN HM.out _))).mono ?_; rintro e w2 ⟨rfl, hb2⟩; dsimp only [res3]; have hq2 : w2.cell? ⟨Bn, 0, none⟩ = some (.string s) := (hb2.cell (p := ⟨Bn, 0, none⟩) hBn).trans hq
                     have hb3 : Below wr.heap.size wr (w2.alloc (.cells (tokB ⟨k, s.extract i (i + m), i, (i : Int) + (m : Int), sp⟩) 26)) := below_alloc (below_step (pw_below_drewN (Below.refl _ _) nd) hb2) _
                     have hB3 := Aside0.mk hb3
                     have hs3 := hb3.size
                     obtain ⟨fn, tmps, assign, body, hy, hR⟩ := HY.out pre (⟨k, s.extract i (i + m), i, (i : Int) + (m : Int), sp⟩, 0) _ (HJa.out pre wr _ none HJ.out (grown_of_below hb3 none) (by simp)) hl0
                     have hB2 := Aside0.mk hb2
                     have hT3 : (w2.alloc (.cells (tokB ⟨k, s.extract i (i + m), i, (i : Int) + (m : Int), sp⟩) 26)).heap[w2.heap.size]? = some (.cells (tokB ⟨k, s.extract i (i + m), i, (i : Int) + (m : Int), sp⟩) 26 (0, 0)) := World.alloc_heap_new w2 _
                     have hT3 := Aside0.mk hT3
                     clear hb2 hb3
                     dsimp only [encT, tokB] at hy))
                refine hR.mono ?_
                rintro e W3 (⟨rfl, hJ3, hk3⟩ | ⟨rfl, hJx3⟩)
                · have hq3 : Boxed W3 Bn 9 (.string s) := box_kp hk3 ((hB3.out.block Bn hBn).trans hcr)
                  have hM3 := Aside0.mk (max_kp hk3 (max_below hB3.out HM.out))
                  have hR3 := Aside0.mk (own_kp hk3 (own_move HR.out (fun b hb => hB3.out.block b (own_lt HR.out b hb))))
                  have hT4 := (hk3 w2.heap.size (.inr ⟨_, hT3.out, tokB_stays _⟩)).trans hT3.out
                  have hS3 : B ≤ W3.heap.size := by
                    have h1 := (Array.getElem?_eq_some_iff.1 hT4).1
                    have h2 := HBs.out
                    simp at hs3
                    omega
                  have ht1 : W3.cell? ⟨w2.heap.size, 1, none⟩ = some (.string (s.extract i (i + m))) := by simp [World.cell?, hT4, tokB]
                  have HS3 := Aside0.mk hS3
                  have HJ3 := Aside0.mk hJ3
                  clear hJ3 hk3 hR hy hT4 hS3 hs3
                  by_cases k9 : k = 9
                  · subst k9
                    gi_wp2
                    go_roundw
                    case rel => exact ⟨i + m, pre ++ [(⟨9, s.extract i (i + m), i, (i : Int) + (m : Int), sp⟩, 0)], false, [], _, rfl, by go_num, rfl, hb0, by simp, ⟨by rw [← HX.out, List.append_assoc]; rfl⟩, HJ3, hq3, hM3, ⟨World.ownsRow_nil _ _ _ _⟩, HS3⟩
                    case measure => simp [intOf]; omega
                  · have k9' : (k == 9) = false := beq_eq_false_iff_ne.mpr k9
                    by_cases k8 : k = 8 ∨ ¬ line.length < 3
                    · have hN3 : lineN line k (s.extract i (i + m)) = line := by
                        unfold lineN
                        rw [if_neg k9, if_neg (by rintro ⟨h1, h2⟩; rcases k8 with k8 | k8 <;> contradiction)]
                      rw [hN3] at HX
                      rcases k8 with rfl | k8
                      all_goals first
                        | (exfalso; omega)
                        | (gi_wp2
                           all_goals exact ⟨⟨i + m, _, false, line, _, rfl, by go_num, rfl, hb0, hl3, ⟨by rw [← HX.out, List.append_assoc]; rfl⟩, HJ3, hq3, hM3, hR3, HS3⟩, by simp [intOf]; omega⟩)
                    · rw [not_or] at k8
                      have k8' : (k != 8) = true := bne_iff_ne.mpr k8.1
                      have k3 : line.length < 3 := by omega
                      have hN3 : lineN line k (s.extract i (i + m)) = line ++ [s.extract i (i + m)] := by
                        unfold lineN
                        rw [if_neg k9, if_pos ⟨k8.1, k3⟩]
                      rw [hN3] at HX
                      have k3' : (line.length : Int) < 3 := by omega
                      obtain ⟨i0, hi0, hz0, hz1, hz2⟩ := info_parts info9
                      gi_wp2_with (gi_at_builtin; go_must (refine wpListIn_append_full _ rfl _ _ 82 rfl B 9 i0 _ 1 16 Try.underlying82 hi0 hz0 hz1 hz2 rfl (by decide) _ _ _ rfl (hR3.out.alloc _) ⟨W3.heap.size, 0, none⟩ 1 1 [.string (s.extract i (i + m))] rfl rfl (cells_new _ _ _) (by simp [Value.oneCell']) (by unfold maxLen; omega) (by omega) (by have := HS3.out; simp; omega) ?_); intro v' w3 hown' hgrow _)
                      go_roundw
                      case rel =>
                        have hG := grown_alloc hgrow
                        have hrow := fun r e => (row_obj hR3.out r e).1
                        refine ⟨i + m, pre ++ [(⟨k, s.extract i (i + m), i, (i : Int) + (m : Int), sp⟩, 0)], false, line ++ [s.extract i (i + m)], v', rfl, by go_num, rfl, hb0, by simp; omega, ⟨by rw [← HX.out, List.append_assoc]; rfl⟩, ⟨?_⟩, ?_, ⟨?_⟩, ⟨?_⟩, ⟨?_⟩⟩
                        · exact HJa.out _ W3 w3 _ HJ3.out hG (fun r e => by obtain ⟨h1, cur, h2⟩ := row_obj hR3.out r e; exact ⟨h1, _, h2, .inr ⟨_, _, rfl⟩⟩)
                        · exact hq3.kept hG (fun e => by have := hrow Bn e.symm; omega)
                        · obtain ⟨mx, hmx⟩ := hM3.out
                          exact ⟨mx, hG.cell hmx (fun e => by have := hrow 0 e.symm; omega)⟩
                        · rw [List.length_append, List.length_singleton]
                          unfold lineV at *
                          rw [List.map_append]
                          exact hown'
                        · have h1 := hgrow.size
                          have h2 := HS3.out
                          simp at h1
                          omega
                      case measure => simp [intOf]; omega
                · have HX3 := Aside0.mk hJx3
                  clear hJx3 hR hy
                  gi_wp2
                  refine bodyPost_ret (results_none rfl _ _ _) rfl ?_
                  exact ⟨⟨_, rfl⟩, .inr ⟨_, ⟨_, by rw [← HX.out, List.append_assoc]; rfl⟩, HX3.out⟩⟩
              · have ht0 : textOf ((L s).drop i) 0 = ByteArray.empty := rfl
                have hx : ∀ e', e = e' → e' ≠ 0 → pre ++ [(⟨0, ByteArray.empty, i, (i : Int), sp⟩, e')] = toksF 0 false [] (L s) := by
                  rintro e' rfl he'
                  rw [← HP.out, HTe.out 0 0 e he' hp]
                  unfold tokOf
                  rw [ht0]
                  simp
                have HX := Aside0.mk hx
                clear hx ht0 HT HTe hp
                dsimp only at he
                have he0 : e ≠ 0 := by omega
                have he' : (e != 0) = true := bne_iff_ne.mpr he0
                have hx := HX.out _ rfl he0
                have hl0 : pre ++ [((⟨0, ByteArray.empty, i, (i : Int), sp⟩, e) : S26 × Int)] <+: toksF 0 false [] (L s) := ⟨[], by rw [List.append_nil]; exact hx⟩
                have HX := Aside0.mk hx
                clear hx
                gi_wp2_with (first
                  | (refine ⟨trivial, ?_⟩; gi_at_call 106; refine (callsIn_wide.2 (scan_white.calls ((at_ s i).toNat : Int) false _ hW.out)).mono ?_; rintro e1 w1 ⟨rfl, ⟨nd, rfl⟩⟩)
                  | (refine ⟨trivial, ?_⟩; gi_at_call 107; refine (callsIn_wide.2 (HF'.out _ (has_drewN HM.out _))).mono ?_; rintro e2 w2 ⟨rfl, hb2⟩; dsimp only [res3]; have hq2 : w2.cell? ⟨Bn, 0, none⟩ = some (.string s) := (hb2.cell (p := ⟨Bn, 0, none⟩) hBn).trans hq
                     have hb3 : Below wr.heap.size wr (w2.alloc (.cells (tokB ⟨0, ByteArray.empty, i, (i : Int), sp⟩) 26)) := below_alloc (below_step (pw_below_drewN (Below.refl _ _) nd) hb2) _
                     obtain ⟨fn, tmps, assign, body, hy, hR⟩ := HY.out pre (⟨0, ByteArray.empty, i, (i : Int), sp⟩, e) _ (HJa.out pre wr _ none HJ.out (grown_of_below hb3 none) (by simp)) hl0
                     clear hb2 hb3
                     dsimp only [encT, tokB] at hy))
                refine hR.mono ?_
                rintro e3 W3 (⟨rfl, hJ3, hk3⟩ | ⟨rfl, hJx3⟩)
                · have HJ3 := Aside0.mk hJ3
                  clear hJ3 hk3 hR hy
                  gi_wp2
                  refine bodyPost_ret (results_none rfl _ _ _) rfl ?_
                  exact ⟨⟨_, rfl⟩, .inl ⟨_, HX.out, HJ3.out⟩⟩
                · have HX3 := Aside0.mk hJx3
                  clear hJx3 hR hy
                  gi_wp2
                  refine bodyPost_ret (results_none rfl _ _ _) rfl ?_
                  exact ⟨⟨_, rfl⟩, .inr ⟨_, ⟨[], by rw [List.append_nil]; exact HX.out⟩, HX3.out⟩⟩
          · have ca' : (a.toList == [35]) = false := beq_eq_false_iff_ne.mpr ca
            rw [ca', Bool.false_or] at hNN
            clear ca
            by_cases cc : a.toList = [37, 58]
            · have cc' : (a.toList == [37, 58]) = true := beq_iff_eq.mpr cc
              rw [cc', Bool.true_and] at hNN
              clear cc
              by_cases cb : b.toList = incl
              · have cb' : (b.toList == [105, 110, 99, 108, 117, 100, 101]) = true := beq_iff_eq.mpr cb
                have hN : namesU line = true := by rw [hNN, cb]; exact beq_self_eq_true _
                clear hNN cb
                obtain ⟨⟨k, m, e⟩, hp⟩ : ∃ p, firstI ((L s).drop i) (namesU line) = p := ⟨_, rfl⟩
                have HF' := Aside0.mk (HF.out (namesU line))
                rw [hp] at hok HF'
                rw [hN] at hp HT HTe HF'
                clear HF
                have HN := Aside0.mk hN
                clear hN
                rcases hok with ⟨rfl, hm0, hm1⟩ | ⟨rfl, rfl, he⟩
                · dsimp only at hm0 hm1
                  obtain ⟨m, rfl⟩ : ∃ q : Nat, m = (q : Int) := ⟨m.toNat, by omega⟩
                  have hb0 : i + m ≤ s.size := by omega
                  have hb1 : (i : Int) + (m : Int) ≤ (s.size : Int) := by omega
                  have hle : (i : Int) ≤ (i : Int) + (m : Int) := by omega
                  have hge : (0 : Int) ≤ (i : Int) + (m : Int) := by omega
                  have hj := HT.out k m hp
                  clear HT HTe hp
                  rw [text_ex] at hj
                  have hx : pre ++ (⟨k, s.extract i (i + m), i, (i : Int) + (m : Int), sp⟩, (0 : Int)) :: toksF (i + m) false (lineN line k (s.extract i (i + m))) ((L s).drop (i + m)) = toksF 0 false [] (L s) := by
                    rw [← HP.out, hj, Int.toNat_natCast, List.drop_drop]; unfold tokOf; rw [text_ex]
                  have hl0 : pre ++ [((⟨k, s.extract i (i + m), i, (i : Int) + (m : Int), sp⟩, 0) : S26 × Int)] <+: toksF 0 false [] (L s) := ⟨_, by rw [List.append_assoc]; exact hx⟩
                  have HX := Aside0.mk hx
                  clear hx hj
                  gi_wp2_with (first
                    | (refine ⟨trivial, ?_⟩; gi_at_call 106; refine (callsIn_wide.2 (scan_white.calls ((at_ s i).toNat : Int) false _ hW.out)).mono ?_; rintro e w1 ⟨rfl, ⟨nd, rfl⟩⟩)
                    | (refine ⟨trivial, ?_⟩; gi_at_call 107; refine (callsIn_wide.2 (HF'.out _ (has_drewN HM.out _))).mono ?_; rintro e w2 ⟨rfl, hb2⟩; dsimp only [res3]; have hq2 : w2.cell? ⟨Bn, 0, none⟩ = some (.string s) := (hb2.cell (p := ⟨Bn, 0, none⟩) hBn).trans hq
                       have hb3 : Below wr.heap.size wr (w2.alloc (.cells (tokB ⟨k, s.extract i (i + m), i, (i : Int) + (m : Int), sp⟩) 26)) := below_alloc (below_step (pw_below_drewN (Below.refl _ _) nd) hb2) _
                       have hB3 := Aside0.mk hb3
                       have hs3 := hb3.size
                       obtain ⟨fn, tmps, assign, body, hy, hR⟩ := HY.out pre (⟨k, s.extract i (i + m), i, (i : Int) + (m : Int), sp⟩, 0) _ (HJa.out pre wr _ none HJ.out (grown_of_below hb3 none) (by simp)) hl0
                       have hB2 := Aside0.mk hb2
                       have hT3 : (w2.alloc (.cells (tokB ⟨k, s.extract i (i + m), i, (i : Int) + (m : Int), sp⟩) 26)).heap[w2.heap.size]? = some (.cells (tokB ⟨k, s.extract i (i + m), i, (i : Int) + (m : Int), sp⟩) 26 (0, 0)) := World.alloc_heap_new w2 _
                       have hT3 := Aside0.mk hT3
                       clear hb2 hb3
                       dsimp only [encT, tokB] at hy))
                  refine hR.mono ?_
                  rintro e W3 (⟨rfl, hJ3, hk3⟩ | ⟨rfl, hJx3⟩)
                  · have hq3 : Boxed W3 Bn 9 (.string s) := box_kp hk3 ((hB3.out.block Bn hBn).trans hcr)
                    have hM3 := Aside0.mk (max_kp hk3 (max_below hB3.out HM.out))
                    have hR3 := Aside0.mk (own_kp hk3 (own_move HR.out (fun b hb => hB3.out.block b (own_lt HR.out b hb))))
                    have hT4 := (hk3 w2.heap.size (.inr ⟨_, hT3.out, tokB_stays _⟩)).trans hT3.out
                    have hS3 : B ≤ W3.heap.size := by
                      have h1 := (Array.getElem?_eq_some_iff.1 hT4).1
                      have h2 := HBs.out
                      simp at hs3
                      omega
                    have ht1 : W3.cell? ⟨w2.heap.size, 1, none⟩ = some (.string (s.extract i (i + m))) := by simp [World.cell?, hT4, tokB]
                    have HS3 := Aside0.mk hS3
                    have HJ3 := Aside0.mk hJ3
                    clear hJ3 hk3 hR hy hT4 hS3 hs3
                    by_cases k9 : k = 9
                    · subst k9
                      gi_wp2
                      go_roundw
                      case rel => exact ⟨i + m, pre ++ [(⟨9, s.extract i (i + m), i, (i : Int) + (m : Int), sp⟩, 0)], false, [], _, rfl, by go_num, rfl, hb0, by simp, ⟨by rw [← HX.out, List.append_assoc]; rfl⟩, HJ3, hq3, hM3, ⟨World.ownsRow_nil _ _ _ _⟩, HS3⟩
                      case measure => simp [intOf]; omega
                    · have k9' : (k == 9) = false := beq_eq_false_iff_ne.mpr k9
                      by_cases k8 : k = 8 ∨ ¬ line.length < 3
                      · have hN3 : lineN line k (s.extract i (i + m)) = line := by
                          unfold lineN
                          rw [if_neg k9, if_neg (by rintro ⟨h1, h2⟩; rcases k8 with k8 | k8 <;> contradiction)]
                        rw [hN3] at HX
                        rcases k8 with rfl | k8
                        all_goals first
                          | (exfalso; omega)
                          | (gi_wp2
                             all_goals exact ⟨⟨i + m, _, false, line, _, rfl, by go_num, rfl, hb0, hl3, ⟨by rw [← HX.out, List.append_assoc]; rfl⟩, HJ3, hq3, hM3, hR3, HS3⟩, by simp [intOf]; omega⟩)
                      · rw [not_or] at k8
                        have k8' : (k != 8) = true := bne_iff_ne.mpr k8.1
                        have k3 : line.length < 3 := by omega
                        have hN3 : lineN line k (s.extract i (i + m)) = line ++ [s.extract i (i + m)] := by
                          unfold lineN
                          rw [if_neg k9, if_pos ⟨k8.1, k3⟩]
                        rw [hN3] at HX
                        have k3' : (line.length : Int) < 3 := by omega
                        obtain ⟨i0, hi0, hz0, hz1, hz2⟩ := info_parts info9
                        gi_wp2_with (gi_at_builtin; go_must (refine wpListIn_append_full _ rfl _ _ 82 rfl B 9 i0 _ 1 16 Try.underlying82 hi0 hz0 hz1 hz2 rfl (by decide) _ _ _ rfl (hR3.out.alloc _) ⟨W3.heap.size, 0, none⟩ 1 1 [.string (s.extract i (i + m))] rfl rfl (cells_new _ _ _) (by simp [Value.oneCell']) (by unfold maxLen; omega) (by omega) (by have := HS3.out; simp; omega) ?_); intro v' w3 hown' hgrow _)
                        go_roundw
                        case rel =>
                          have hG := grown_alloc hgrow
                          have hrow := fun r e => (row_obj hR3.out r e).1
                          refine ⟨i + m, pre ++ [(⟨k, s.extract i (i + m), i, (i : Int) + (m : Int), sp⟩, 0)], false, line ++ [s.extract i (i + m)], v', rfl, by go_num, rfl, hb0, by simp; omega, ⟨by rw [← HX.out, List.append_assoc]; rfl⟩, ⟨?_⟩, ?_, ⟨?_⟩, ⟨?_⟩, ⟨?_⟩⟩
                          · exact HJa.out _ W3 w3 _ HJ3.out hG (fun r e => by obtain ⟨h1, cur, h2⟩ := row_obj hR3.out r e; exact ⟨h1, _, h2, .inr ⟨_, _, rfl⟩⟩)
                          · exact hq3.kept hG (fun e => by have := hrow Bn e.symm; omega)
                          · obtain ⟨mx, hmx⟩ := hM3.out
                            exact ⟨mx, hG.cell hmx (fun e => by have := hrow 0 e.symm; omega)⟩
                          · rw [List.length_append, List.length_singleton]
                            unfold lineV at *
                            rw [List.map_append]
                            exact hown'
                          · have h1 := hgrow.size
                            have h2 := HS3.out
                            simp at h1
                            omega
                        case measure => simp [intOf]; omega
                  · have HX3 := Aside0.mk hJx3
                    clear hJx3 hR hy
                    gi_wp2
                    refine bodyPost_ret (results_none rfl _ _ _) rfl ?_
                    exact ⟨⟨_, rfl⟩, .inr ⟨_, ⟨_, by rw [← HX.out, List.append_assoc]; rfl⟩, HX3.out⟩⟩
                · have ht0 : textOf ((L s).drop i) 0 = ByteArray.empty := rfl
                  have hx : ∀ e', e = e' → e' ≠ 0 → pre ++ [(⟨0, ByteArray.empty, i, (i : Int), sp⟩, e')] = toksF 0 false [] (L s) := by
                    rintro e' rfl he'
                    rw [← HP.out, HTe.out 0 0 e he' hp]
                    unfold tokOf
                    rw [ht0]
                    simp
                  have HX := Aside0.mk hx
                  clear hx ht0 HT HTe hp
                  dsimp only at he
                  have he0 : e ≠ 0 := by omega
                  have he' : (e != 0) = true := bne_iff_ne.mpr he0
                  have hx := HX.out _ rfl he0
                  have hl0 : pre ++ [((⟨0, ByteArray.empty, i, (i : Int), sp⟩, e) : S26 × Int)] <+: toksF 0 false [] (L s) := ⟨[], by rw [List.append_nil]; exact hx⟩
                  have HX := Aside0.mk hx
                  clear hx
                  gi_wp2_with (first
                    | (refine ⟨trivial, ?_⟩; gi_at_call 106; refine (callsIn_wide.2 (scan_white.calls ((at_ s i).toNat : Int) false _ hW.out)).mono ?_; rintro e1 w1 ⟨rfl, ⟨nd, rfl⟩⟩)
                    | (refine ⟨trivial, ?_⟩; gi_at_call 107; refine (callsIn_wide.2 (HF'.out _ (has_drewN HM.out _))).mono ?_; rintro e2 w2 ⟨rfl, hb2⟩; dsimp only [res3]; have hq2 : w2.cell? ⟨Bn, 0, none⟩ = some (.string s) := (hb2.cell (p := ⟨Bn, 0, none⟩) hBn).trans hq
                       have hb3 : Below wr.heap.size wr (w2.alloc (.cells (tokB ⟨0, ByteArray.empty, i, (i : Int), sp⟩) 26)) := below_alloc (below_step (pw_below_drewN (Below.refl _ _) nd) hb2) _
                       obtain ⟨fn, tmps, assign, body, hy, hR⟩ := HY.out pre (⟨0, ByteArray.empty, i, (i : Int), sp⟩, e) _ (HJa.out pre wr _ none HJ.out (grown_of_below hb3 none) (by simp)) hl0
                       clear hb2 hb3
                       dsimp only [encT, tokB] at hy))
                  refine hR.mono ?_
                  rintro e3 W3 (⟨rfl, hJ3, hk3⟩ | ⟨rfl, hJx3⟩)
                  · have HJ3 := Aside0.mk hJ3
                    clear hJ3 hk3 hR hy
                    gi_wp2
                    refine bodyPost_ret (results_none rfl _ _ _) rfl ?_
                    exact ⟨⟨_, rfl⟩, .inl ⟨_, HX.out, HJ3.out⟩⟩
                  · have HX3 := Aside0.mk hJx3
                    clear hJx3 hR hy
                    gi_wp2
                    refine bodyPost_ret (results_none rfl _ _ _) rfl ?_
                    exact ⟨⟨_, rfl⟩, .inr ⟨_, ⟨[], by rw [List.append_nil]; exact HX.out⟩, HX3.out⟩⟩
              · have cb' : (b.toList == [105, 110, 99, 108, 117, 100, 101]) = false := beq_eq_false_iff_ne.mpr cb
                have hN : namesU line = false := by rw [hNN, show (b.toList == incl) = false from cb']
                clear hNN cb
                obtain ⟨⟨k, m, e⟩, hp⟩ : ∃ p, firstI ((L s).drop i) (namesU line) = p := ⟨_, rfl⟩
                have HF' := Aside0.mk (HF.out (namesU line))
                rw [hp] at hok HF'
                rw [hN] at hp HT HTe HF'
                clear HF
                have HN := Aside0.mk hN
                clear hN
                rcases hok with ⟨rfl, hm0, hm1⟩ | ⟨rfl, rfl, he⟩
                · dsimp only at hm0 hm1
                  obtain ⟨m, rfl⟩ : ∃ q : Nat, m = (q : Int) := ⟨m.toNat, by omega⟩
                  have hb0 : i + m ≤ s.size := by omega
                  have hb1 : (i : Int) + (m : Int) ≤ (s.size : Int) := by omega
                  have hle : (i : Int) ≤ (i : Int) + (m : Int) := by omega
                  have hge : (0 : Int) ≤ (i : Int) + (m : Int) := by omega
                  have hj := HT.out k m hp
                  clear HT HTe hp
                  rw [text_ex] at hj
                  have hx : pre ++ (⟨k, s.extract i (i + m), i, (i : Int) + (m : Int), sp⟩, (0 : Int)) :: toksF (i + m) false (lineN line k (s.extract i (i + m))) ((L s).drop (i + m)) = toksF 0 false [] (L s) := by
                    rw [← HP.out, hj, Int.toNat_natCast, List.drop_drop]; unfold tokOf; rw [text_ex]
                  have hl0 : pre ++ [((⟨k, s.extract i (i + m), i, (i : Int) + (m : Int), sp⟩, 0) : S26 × Int)] <+: toksF 0 false [] (L s) := ⟨_, by rw [List.append_assoc]; exact hx⟩
                  have HX := Aside0.mk hx
                  clear hx hj
                  gi_wp2_with (first
                    | (refine ⟨trivial, ?_⟩; gi_at_call 106; refine (callsIn_wide.2 (scan_white.calls ((at_ s i).toNat : Int) false _ hW.out)).mono ?_; rintro e w1 ⟨rfl, ⟨nd, rfl⟩⟩)
                    | (refine ⟨trivial, ?_⟩; gi_at_call 107; refine (callsIn_wide.2 (HF'.out _ (has_drewN HM.out _))).mono ?_; rintro e w2 ⟨rfl, hb2⟩; dsimp only [res3]; have hq2 : w2.cell? ⟨Bn, 0, none⟩ = some (.string s) := (hb2.cell (p := ⟨Bn, 0, none⟩) hBn).trans hq
                       have hb3 : Below wr.heap.size wr (w2.alloc (.cells (tokB ⟨k, s.extract i (i + m), i, (i : Int) + (m : Int), sp⟩) 26)) := below_alloc (below_step (pw_below_drewN (Below.refl _ _) nd) hb2) _
                       have hB3 := Aside0.mk hb3
                       have hs3 := hb3.size
                       obtain ⟨fn, tmps, assign, body, hy, hR⟩ := HY.out pre (⟨k, s.extract i (i + m), i, (i : Int) + (m : Int), sp⟩, 0) _ (HJa.out pre wr _ none HJ.out (grown_of_below hb3 none) (by simp)) hl0
                       have hB2 := Aside0.mk hb2
                       have hT3 : (w2.alloc (.cells (tokB ⟨k, s.extract i (i + m), i, (i : Int) + (m : Int), sp⟩) 26)).heap[w2.heap.size]? = some (.cells (tokB ⟨k, s.extract i (i + m), i, (i : Int) + (m : Int), sp⟩) 26 (0, 0)) := World.alloc_heap_new w2 _
                       have hT3 := Aside0.mk hT3
                       clear hb2 hb3
                       dsimp only [encT, tokB] at hy))
                  refine hR.mono ?_
                  rintro e W3 (⟨rfl, hJ3, hk3⟩ | ⟨rfl, hJx3⟩)
                  · have hq3 : Boxed W3 Bn 9 (.string s) := box_kp hk3 ((hB3.out.block Bn hBn).trans hcr)
                    have hM3 := Aside0.mk (max_kp hk3 (max_below hB3.out HM.out))
                    have hR3 := Aside0.mk (own_kp hk3 (own_move HR.out (fun b hb => hB3.out.block b (own_lt HR.out b hb))))
                    have hT4 := (hk3 w2.heap.size (.inr ⟨_, hT3.out, tokB_stays _⟩)).trans hT3.out
                    have hS3 : B ≤ W3.heap.size := by
                      have h1 := (Array.getElem?_eq_some_iff.1 hT4).1
                      have h2 := HBs.out
                      simp at hs3
                      omega
                    have ht1 : W3.cell? ⟨w2.heap.size, 1, none⟩ = some (.string (s.extract i (i + m))) := by simp [World.cell?, hT4, tokB]
                    have HS3 := Aside0.mk hS3
                    have HJ3 := Aside0.mk hJ3
                    clear hJ3 hk3 hR hy hT4 hS3 hs3
                    by_cases k9 : k = 9
                    · subst k9
                      gi_wp2
                      go_roundw
                      case rel => exact ⟨i + m, pre ++ [(⟨9, s.extract i (i + m), i, (i : Int) + (m : Int), sp⟩, 0)], false, [], _, rfl, by go_num, rfl, hb0, by simp, ⟨by rw [← HX.out, List.append_assoc]; rfl⟩, HJ3, hq3, hM3, ⟨World.ownsRow_nil _ _ _ _⟩, HS3⟩
                      case measure => simp [intOf]; omega
                    · have k9' : (k == 9) = false := beq_eq_false_iff_ne.mpr k9
                      by_cases k8 : k = 8 ∨ ¬ line.length < 3
                      · have hN3 : lineN line k (s.extract i (i + m)) = line := by
                          unfold lineN
                          rw [if_neg k9, if_neg (by rintro ⟨h1, h2⟩; rcases k8 with k8 | k8 <;> contradiction)]
                        rw [hN3] at HX
                        rcases k8 with rfl | k8
                        all_goals first
                          | (exfalso; omega)
                          | (gi_wp2
                             all_goals exact ⟨⟨i + m, _, false, line, _, rfl, by go_num, rfl, hb0, hl3, ⟨by rw [← HX.out, List.append_assoc]; rfl⟩, HJ3, hq3, hM3, hR3, HS3⟩, by simp [intOf]; omega⟩)
                      · rw [not_or] at k8
                        have k8' : (k != 8) = true := bne_iff_ne.mpr k8.1
                        have k3 : line.length < 3 := by omega
                        have hN3 : lineN line k (s.extract i (i + m)) = line ++ [s.extract i (i + m)] := by
                          unfold lineN
                          rw [if_neg k9, if_pos ⟨k8.1, k3⟩]
                        rw [hN3] at HX
                        have k3' : (line.length : Int) < 3 := by omega
                        obtain ⟨i0, hi0, hz0, hz1, hz2⟩ := info_parts info9
                        gi_wp2_with (gi_at_builtin; go_must (refine wpListIn_append_full _ rfl _ _ 82 rfl B 9 i0 _ 1 16 Try.underlying82 hi0 hz0 hz1 hz2 rfl (by decide) _ _ _ rfl (hR3.out.alloc _) ⟨W3.heap.size, 0, none⟩ 1 1 [.string (s.extract i (i + m))] rfl rfl (cells_new _ _ _) (by simp [Value.oneCell']) (by unfold maxLen; omega) (by omega) (by have := HS3.out; simp; omega) ?_); intro v' w3 hown' hgrow _)
                        go_roundw
                        case rel =>
                          have hG := grown_alloc hgrow
                          have hrow := fun r e => (row_obj hR3.out r e).1
                          refine ⟨i + m, pre ++ [(⟨k, s.extract i (i + m), i, (i : Int) + (m : Int), sp⟩, 0)], false, line ++ [s.extract i (i + m)], v', rfl, by go_num, rfl, hb0, by simp; omega, ⟨by rw [← HX.out, List.append_assoc]; rfl⟩, ⟨?_⟩, ?_, ⟨?_⟩, ⟨?_⟩, ⟨?_⟩⟩
                          · exact HJa.out _ W3 w3 _ HJ3.out hG (fun r e => by obtain ⟨h1, cur, h2⟩ := row_obj hR3.out r e; exact ⟨h1, _, h2, .inr ⟨_, _, rfl⟩⟩)
                          · exact hq3.kept hG (fun e => by have := hrow Bn e.symm; omega)
                          · obtain ⟨mx, hmx⟩ := hM3.out
                            exact ⟨mx, hG.cell hmx (fun e => by have := hrow 0 e.symm; omega)⟩
                          · rw [List.length_append, List.length_singleton]
                            unfold lineV at *
                            rw [List.map_append]
                            exact hown'
                          · have h1 := hgrow.size
                            have h2 := HS3.out
                            simp at h1
                            omega
                        case measure => simp [intOf]; omega
                  · have HX3 := Aside0.mk hJx3
                    clear hJx3 hR hy
                    gi_wp2
                    refine bodyPost_ret (results_none rfl _ _ _) rfl ?_
                    exact ⟨⟨_, rfl⟩, .inr ⟨_, ⟨_, by rw [← HX.out, List.append_assoc]; rfl⟩, HX3.out⟩⟩
                · have ht0 : textOf ((L s).drop i) 0 = ByteArray.empty := rfl
                  have hx : ∀ e', e = e' → e' ≠ 0 → pre ++ [(⟨0, ByteArray.empty, i, (i : Int), sp⟩, e')] = toksF 0 false [] (L s) := by
                    rintro e' rfl he'
                    rw [← HP.out, HTe.out 0 0 e he' hp]
                    unfold tokOf
                    rw [ht0]
                    simp
                  have HX := Aside0.mk hx
                  clear hx ht0 HT HTe hp
                  dsimp only at he
                  have he0 : e ≠ 0 := by omega
                  have he' : (e != 0) = true := bne_iff_ne.mpr he0
                  have hx := HX.out _ rfl he0
                  have hl0 : pre ++ [((⟨0, ByteArray.empty, i, (i : Int), sp⟩, e) : S26 × Int)] <+: toksF 0 false [] (L s) := ⟨[], by rw [List.append_nil]; exact hx⟩
                  have HX := Aside0.mk hx
                  clear hx
                  gi_wp2_with (first
                    | (refine ⟨trivial, ?_⟩; gi_at_call 106; refine (callsIn_wide.2 (scan_white.calls ((at_ s i).toNat : Int) false _ hW.out)).mono ?_; rintro e1 w1 ⟨rfl, ⟨nd, rfl⟩⟩)
                    | (refine ⟨trivial, ?_⟩; gi_at_call 107; refine (callsIn_wide.2 (HF'.out _ (has_drewN HM.out _))).mono ?_; rintro e2 w2 ⟨rfl, hb2⟩; dsimp only [res3]; have hq2 : w2.cell? ⟨Bn, 0, none⟩ = some (.string s) := (hb2.cell (p := ⟨Bn, 0, none⟩) hBn).trans hq
                       have hb3 : Below wr.heap.size wr (w2.alloc (.cells (tokB ⟨0, ByteArray.empty, i, (i : Int), sp⟩) 26)) := below_alloc (below_step (pw_below_drewN (Below.refl _ _) nd) hb2) _
                       obtain ⟨fn, tmps, assign, body, hy, hR⟩ := HY.out pre (⟨0, ByteArray.empty, i, (i : Int), sp⟩, e) _ (HJa.out pre wr _ none HJ.out (grown_of_below hb3 none) (by simp)) hl0
                       clear hb2 hb3
                       dsimp only [encT, tokB] at hy))
                  refine hR.mono ?_
                  rintro e3 W3 (⟨rfl, hJ3, hk3⟩ | ⟨rfl, hJx3⟩)
                  · have HJ3 := Aside0.mk hJ3
                    clear hJ3 hk3 hR hy
                    gi_wp2
                    refine bodyPost_ret (results_none rfl _ _ _) rfl ?_
                    exact ⟨⟨_, rfl⟩, .inl ⟨_, HX.out, HJ3.out⟩⟩
                  · have HX3 := Aside0.mk hJx3
                    clear hJx3 hR hy
                    gi_wp2
                    refine bodyPost_ret (results_none rfl _ _ _) rfl ?_
                    exact ⟨⟨_, rfl⟩, .inr ⟨_, ⟨[], by rw [List.append_nil]; exact HX.out⟩, HX3.out⟩⟩
            · have cc' : (a.toList == [37, 58]) = false := beq_eq_false_iff_ne.mpr cc
              have hN : namesU line = false := by rw [hNN, cc']; rfl
              clear hNN cc
              obtain ⟨⟨k, m, e⟩, hp⟩ : ∃ p, firstI ((L s).drop i) (namesU line) = p := ⟨_, rfl⟩
              have HF' := Aside0.mk (HF.out (namesU line))
              rw [hp] at hok HF'
              rw [hN] at hp HT HTe HF'
              clear HF
              have HN := Aside0.mk hN
              clear hN
              rcases hok with ⟨rfl, hm0, hm1⟩ | ⟨rfl, rfl, he⟩
              · dsimp only at hm0 hm1
                obtain ⟨m, rfl⟩ : ∃ q : Nat, m = (q : Int) := ⟨m.toNat, by omega⟩
                have hb0 : i + m ≤ s.size := by omega
                have hb1 : (i : Int) + (m : Int) ≤ (s.size : Int) := by omega
                have hle : (i : Int) ≤ (i : Int) + (m : Int) := by omega
                have hge : (0 : Int) ≤ (i : Int) + (m : Int) := by omega
                have hj := HT.out k m hp
                clear HT HTe hp
                rw [text_ex] at hj
                have hx : pre ++ (⟨k, s.extract i (i + m), i, (i : Int) + (m : Int), sp⟩, (0 : Int)) :: toksF (i + m) false (lineN line k (s.extract i (i + m))) ((L s).drop (i + m)) = toksF 0 false [] (L s) := by
                  rw [← HP.out, hj, Int.toNat_natCast, List.drop_drop]; unfold tokOf; rw [text_ex]
                have hl0 : pre ++ [((⟨k, s.extract i (i + m), i, (i : Int) + (m : Int), sp⟩, 0) : S26 × Int)] <+: toksF 0 false [] (L s) := ⟨_, by rw [List.append_assoc]; exact hx⟩
                have HX := Aside0.mk hx
                clear hx hj
                gi_wp2_with (first
                  | (refine ⟨trivial, ?_⟩; gi_at_call 106; refine (callsIn_wide.2 (scan_white.calls ((at_ s i).toNat : Int) false _ hW.out)).mono ?_; rintro e w1 ⟨rfl, ⟨nd, rfl⟩⟩)
                  | (refine ⟨trivial, ?_⟩; gi_at_call 107; refine (callsIn_wide.2 (HF'.out _ (has_drewN HM.out _))).mono ?_; rintro e w2 ⟨rfl, hb2⟩; dsimp only [res3]; have hq2 : w2.cell? ⟨Bn, 0, none⟩ = some (.string s) := (hb2.cell (p := ⟨Bn, 0, none⟩) hBn).trans hq
                     have hb3 : Below wr.heap.size wr (w2.alloc (.cells (tokB ⟨k, s.extract i (i + m), i, (i : Int) + (m : Int), sp⟩) 26)) := below_alloc (below_step (pw_below_drewN (Below.refl _ _) nd) hb2) _
                     have hB3 := Aside0.mk hb3
                     have hs3 := hb3.size
                     obtain ⟨fn, tmps, assign, body, hy, hR⟩ := HY.out pre (⟨k, s.extract i (i + m), i, (i : Int) + (m : Int), sp⟩, 0) _ (HJa.out pre wr _ none HJ.out (grown_of_below hb3 none) (by simp)) hl0
                     have hB2 := Aside0.mk hb2
                     have hT3 : (w2.alloc (.cells (tokB ⟨k, s.extract i (i + m), i, (i : Int) + (m : Int), sp⟩) 26)).heap[w2.heap.size]? = some (.cells (tokB ⟨k, s.extract i (i + m), i, (i : Int) + (m : Int), sp⟩) 26 (0, 0)) := World.alloc_heap_new w2 _
                     have hT3 := Aside0.mk hT3
                     clear hb2 hb3
                     dsimp only [encT, tokB] at hy))
                refine hR.mono ?_
                rintro e W3 (⟨rfl, hJ3, hk3⟩ | ⟨rfl, hJx3⟩)
                · have hq3 : Boxed W3 Bn 9 (.string s) := box_kp hk3 ((hB3.out.block Bn hBn).trans hcr)
                  have hM3 := Aside0.mk (max_kp hk3 (max_below hB3.out HM.out))
                  have hR3 := Aside0.mk (own_kp hk3 (own_move HR.out (fun b hb => hB3.out.block b (own_lt HR.out b hb))))
                  have hT4 := (hk3 w2.heap.size (.inr ⟨_, hT3.out, tokB_stays _⟩)).trans hT3.out
                  have hS3 : B ≤ W3.heap.size := by
                    have h1 := (Array.getElem?_eq_some_iff.1 hT4).1
                    have h2 := HBs.out
                    simp at hs3
                    omega
                  have ht1 : W3.cell? ⟨w2.heap.size, 1, none⟩ = some (.string (s.extract i (i + m))) := by simp [World.cell?, hT4, tokB]
                  have HS3 := Aside0.mk hS3
                  have HJ3 := Aside0.mk hJ3
                  clear hJ3 hk3 hR hy hT4 hS3 hs3
                  by_cases k9 : k = 9
                  · subst k9
                    gi_wp2
                    go_roundw
                    case rel => exact ⟨i + m, pre ++ [(⟨9, s.extract i (i + m), i, (i : Int) + (m : Int), sp⟩, 0)], false, [], _, rfl, by go_num, rfl, hb0, by simp, ⟨by rw [← HX.out, List.append_assoc]; rfl⟩, HJ3, hq3, hM3, ⟨World.ownsRow_nil _ _ _ _⟩, HS3⟩
                    case measure => simp [intOf]; omega
                  · have k9' : (k == 9) = false := beq_eq_false_iff_ne.mpr k9
                    by_cases k8 : k = 8 ∨ ¬ line.length < 3
                    · have hN3 : lineN line k (s.extract i (i + m)) = line := by
                        unfold lineN
                        rw [if_neg k9, if_neg (by rintro ⟨h1, h2⟩; rcases k8 with k8 | k8 <;> contradiction)]
                      rw [hN3] at HX
                      rcases k8 with rfl | k8
                      all_goals first
                        | (exfalso; omega)
                        | (gi_wp2
                           all_goals exact ⟨⟨i + m, _, false, line, _, rfl, by go_num, rfl, hb0, hl3, ⟨by rw [← HX.out, List.append_assoc]; rfl⟩, HJ3, hq3, hM3, hR3, HS3⟩, by simp [intOf]; omega⟩)
                    · rw [not_or] at k8
                      have k8' : (k != 8) = true := bne_iff_ne.mpr k8.1
                      have k3 : line.length < 3 := by omega
                      have hN3 : lineN line k (s.extract i (i + m)) = line ++ [s.extract i (i + m)] := by
                        unfold lineN
                        rw [if_neg k9, if_pos ⟨k8.1, k3⟩]
                      rw [hN3] at HX
                      have k3' : (line.length : Int) < 3 := by omega
                      obtain ⟨i0, hi0, hz0, hz1, hz2⟩ := info_parts info9
                      gi_wp2_with (gi_at_builtin; go_must (refine wpListIn_append_full _ rfl _ _ 82 rfl B 9 i0 _ 1 16 Try.underlying82 hi0 hz0 hz1 hz2 rfl (by decide) _ _ _ rfl (hR3.out.alloc _) ⟨W3.heap.size, 0, none⟩ 1 1 [.string (s.extract i (i + m))] rfl rfl (cells_new _ _ _) (by simp [Value.oneCell']) (by unfold maxLen; omega) (by omega) (by have := HS3.out; simp; omega) ?_); intro v' w3 hown' hgrow _)
                      go_roundw
                      case rel =>
                        have hG := grown_alloc hgrow
                        have hrow := fun r e => (row_obj hR3.out r e).1
                        refine ⟨i + m, pre ++ [(⟨k, s.extract i (i + m), i, (i : Int) + (m : Int), sp⟩, 0)], false, line ++ [s.extract i (i + m)], v', rfl, by go_num, rfl, hb0, by simp; omega, ⟨by rw [← HX.out, List.append_assoc]; rfl⟩, ⟨?_⟩, ?_, ⟨?_⟩, ⟨?_⟩, ⟨?_⟩⟩
                        · exact HJa.out _ W3 w3 _ HJ3.out hG (fun r e => by obtain ⟨h1, cur, h2⟩ := row_obj hR3.out r e; exact ⟨h1, _, h2, .inr ⟨_, _, rfl⟩⟩)
                        · exact hq3.kept hG (fun e => by have := hrow Bn e.symm; omega)
                        · obtain ⟨mx, hmx⟩ := hM3.out
                          exact ⟨mx, hG.cell hmx (fun e => by have := hrow 0 e.symm; omega)⟩
                        · rw [List.length_append, List.length_singleton]
                          unfold lineV at *
                          rw [List.map_append]
                          exact hown'
                        · have h1 := hgrow.size
                          have h2 := HS3.out
                          simp at h1
                          omega
                      case measure => simp [intOf]; omega
                · have HX3 := Aside0.mk hJx3
                  clear hJx3 hR hy
                  gi_wp2
                  refine bodyPost_ret (results_none rfl _ _ _) rfl ?_
                  exact ⟨⟨_, rfl⟩, .inr ⟨_, ⟨_, by rw [← HX.out, List.append_assoc]; rfl⟩, HX3.out⟩⟩
              · have ht0 : textOf ((L s).drop i) 0 = ByteArray.empty := rfl
                have hx : ∀ e', e = e' → e' ≠ 0 → pre ++ [(⟨0, ByteArray.empty, i, (i : Int), sp⟩, e')] = toksF 0 false [] (L s) := by
                  rintro e' rfl he'
                  rw [← HP.out, HTe.out 0 0 e he' hp]
                  unfold tokOf
                  rw [ht0]
                  simp
                have HX := Aside0.mk hx
                clear hx ht0 HT HTe hp
                dsimp only at he
                have he0 : e ≠ 0 := by omega
                have he' : (e != 0) = true := bne_iff_ne.mpr he0
                have hx := HX.out _ rfl he0
                have hl0 : pre ++ [((⟨0, ByteArray.empty, i, (i : Int), sp⟩, e) : S26 × Int)] <+: toksF 0 false [] (L s) := ⟨[], by rw [List.append_nil]; exact hx⟩
                have HX := Aside0.mk hx
                clear hx
                gi_wp2_with (first
                  | (refine ⟨trivial, ?_⟩; gi_at_call 106; refine (callsIn_wide.2 (scan_white.calls ((at_ s i).toNat : Int) false _ hW.out)).mono ?_; rintro e1 w1 ⟨rfl, ⟨nd, rfl⟩⟩)
                  | (refine ⟨trivial, ?_⟩; gi_at_call 107; refine (callsIn_wide.2 (HF'.out _ (has_drewN HM.out _))).mono ?_; rintro e2 w2 ⟨rfl, hb2⟩; dsimp only [res3]; have hq2 : w2.cell? ⟨Bn, 0, none⟩ = some (.string s) := (hb2.cell (p := ⟨Bn, 0, none⟩) hBn).trans hq
                     have hb3 : Below wr.heap.size wr (w2.alloc (.cells (tokB ⟨0, ByteArray.empty, i, (i : Int), sp⟩) 26)) := below_alloc (below_step (pw_below_drewN (Below.refl _ _) nd) hb2) _
                     obtain ⟨fn, tmps, assign, body, hy, hR⟩ := HY.out pre (⟨0, ByteArray.empty, i, (i : Int), sp⟩, e) _ (HJa.out pre wr _ none HJ.out (grown_of_below hb3 none) (by simp)) hl0
                     clear hb2 hb3
                     dsimp only [encT, tokB] at hy))
                refine hR.mono ?_
                rintro e3 W3 (⟨rfl, hJ3, hk3⟩ | ⟨rfl, hJx3⟩)
                · have HJ3 := Aside0.mk hJ3
                  clear hJ3 hk3 hR hy
                  gi_wp2
                  refine bodyPost_ret (results_none rfl _ _ _) rfl ?_
                  exact ⟨⟨_, rfl⟩, .inl ⟨_, HX.out, HJ3.out⟩⟩
                · have HX3 := Aside0.mk hJx3
                  clear hJx3 hR hy
                  gi_wp2
                  refine bodyPost_ret (results_none rfl _ _ _) rfl ?_
                  exact ⟨⟨_, rfl⟩, .inr ⟨_, ⟨[], by rw [List.append_nil]; exact HX.out⟩, HX3.out⟩⟩
        · have h2' : ((line.length : Int) == 2) = false := beq_eq_false_iff_ne.mpr (by omega)
          have hN : namesU line = false := by
            match line, h2 with
            | [], _ => rfl
            | [_], _ => rfl
            | [_, _], h => simp at h
            | _ :: _ :: _ :: _, _ => rfl
          obtain ⟨A0, c0, rfl⟩ := own_slice HR.out
          obtain ⟨⟨k, m, e⟩, hp⟩ : ∃ p, firstI ((L s).drop i) (namesU line) = p := ⟨_, rfl⟩
          have HF' := Aside0.mk (HF.out (namesU line))
          rw [hp] at hok HF'
          rw [hN] at hp HT HTe HF'
          clear HF
          have HN := Aside0.mk hN
          clear hN
          rcases hok with ⟨rfl, hm0, hm1⟩ | ⟨rfl, rfl, he⟩
          · dsimp only at hm0 hm1
            obtain ⟨m, rfl⟩ : ∃ q : Nat, m = (q : Int) := ⟨m.toNat, by omega⟩
            have hb0 : i + m ≤ s.size := by omega
            have hb1 : (i : Int) + (m : Int) ≤ (s.size : Int) := by omega
            have hle : (i : Int) ≤ (i : Int) + (m : Int) := by omega
            have hge : (0 : Int) ≤ (i : Int) + (m : Int) := by omega
            have hj := HT.out k m hp
            clear HT HTe hp
            rw [text_ex] at hj
            have hx : pre ++ (⟨k, s.extract i (i + m), i, (i : Int) + (m : Int), sp⟩, (0 : Int)) :: toksF (i + m) false (lineN line k (s.extract i (i + m))) ((L s).drop (i + m)) = toksF 0 false [] (L s) := by
              rw [← HP.out, hj, Int.toNat_natCast, List.drop_drop]; unfold tokOf; rw [text_ex]
            have hl0 : pre ++ [((⟨k, s.extract i (i + m), i, (i : Int) + (m : Int), sp⟩, 0) : S26 × Int)] <+: toksF 0 false [] (L s) := ⟨_, by rw [List.append_assoc]; exact hx⟩
            have HX := Aside0.mk hx
            clear hx hj
            gi_wp2_with (first
              | (refine ⟨trivial, ?_⟩; gi_at_call 106; refine (callsIn_wide.2 (scan_white.calls ((at_ s i).toNat : Int) false _ hW.out)).mono ?_; rintro e w1 ⟨rfl, ⟨nd, rfl⟩⟩)
              | (refine ⟨trivial, ?_⟩; gi_at_call 107; refine (callsIn_wide.2 (HF'.out _ (has_drewN HM.out _))).mono ?_; rintro e w2 ⟨rfl, hb2⟩; dsimp only [res3]; have hq2 : w2.cell? ⟨Bn, 0, none⟩ = some (.string s) := (hb2.cell (p := ⟨Bn, 0, none⟩) hBn).trans hq
                 have hb3 : Below wr.heap.size wr (w2.alloc (.cells (tokB ⟨k, s.extract i (i + m), i, (i : Int) + (m : Int), sp⟩) 26)) := below_alloc (below_step (pw_below_drewN (Below.refl _ _) nd) hb2) _
                 have hB3 := Aside0.mk hb3
                 have hs3 := hb3.size
                 obtain ⟨fn, tmps, assign, body, hy, hR⟩ := HY.out pre (⟨k, s.extract i (i + m), i, (i : Int) + (m : Int), sp⟩, 0) _ (HJa.out pre wr _ none HJ.out (grown_of_below hb3 none) (by simp)) hl0
                 have hB2 := Aside0.mk hb2
                 have hT3 : (w2.alloc (.cells (tokB ⟨k, s.extract i (i + m), i, (i : Int) + (m : Int), sp⟩) 26)).heap[w2.heap.size]? = some (.cells (tokB ⟨k, s.extract i (i + m), i, (i : Int) + (m : Int), sp⟩) 26 (0, 0)) := World.alloc_heap_new w2 _
                 have hT3 := Aside0.mk hT3
                 clear hb2 hb3
                 dsimp only [encT, tokB] at hy))
            refine hR.mono ?_
            rintro e W3 (⟨rfl, hJ3, hk3⟩ | ⟨rfl, hJx3⟩)
            · have hq3 : Boxed W3 Bn 9 (.string s) := box_kp hk3 ((hB3.out.block Bn hBn).trans hcr)
              have hM3 := Aside0.mk (max_kp hk3 (max_below hB3.out HM.out))
              have hR3 := Aside0.mk (own_kp hk3 (own_move HR.out (fun b hb => hB3.out.block b (own_lt HR.out b hb))))
              have hT4 := (hk3 w2.heap.size (.inr ⟨_, hT3.out, tokB_stays _⟩)).trans hT3.out
              have hS3 : B ≤ W3.heap.size := by
                have h1 := (Array.getElem?_eq_some_iff.1 hT4).1
                have h2 := HBs.out
                simp at hs3
                omega
              have ht1 : W3.cell? ⟨w2.heap.size, 1, none⟩ = some (.string (s.extract i (i + m))) := by simp [World.cell?, hT4, tokB]
              have HS3 := Aside0.mk hS3
              have HJ3 := Aside0.mk hJ3
              clear hJ3 hk3 hR hy hT4 hS3 hs3
              by_cases k9 : k = 9
              · subst k9
                gi_wp2
                go_roundw
                case rel => exact ⟨i + m, pre ++ [(⟨9, s.extract i (i + m), i, (i : Int) + (m : Int), sp⟩, 0)], false, [], _, rfl, by go_num, rfl, hb0, by simp, ⟨by rw [← HX.out, List.append_assoc]; rfl⟩, HJ3, hq3, hM3, ⟨World.ownsRow_nil _ _ _ _⟩, HS3⟩
                case measure => simp [intOf]; omega
              · have k9' : (k == 9) = false := beq_eq_false_iff_ne.mpr k9
                by_cases k8 : k = 8 ∨ ¬ line.length < 3
                · have hN3 : lineN line k (s.extract i (i + m)) = line := by
                    unfold lineN
                    rw [if_neg k9, if_neg (by rintro ⟨h1, h2⟩; rcases k8 with k8 | k8 <;> contradiction)]
                  rw [hN3] at HX
                  rcases k8 with rfl | k8
                  all_goals first
                    | (exfalso; omega)
                    | (gi_wp2
                       all_goals exact ⟨⟨i + m, _, false, line, _, rfl, by go_num, rfl, hb0, hl3, ⟨by rw [← HX.out, List.append_assoc]; rfl⟩, HJ3, hq3, hM3, hR3, HS3⟩, by simp [intOf]; omega⟩)
                · rw [not_or] at k8
                  have k8' : (k != 8) = true := bne_iff_ne.mpr k8.1
                  have k3 : line.length < 3 := by omega
                  have hN3 : lineN line k (s.extract i (i + m)) = line ++ [s.extract i (i + m)] := by
                    unfold lineN
                    rw [if_neg k9, if_pos ⟨k8.1, k3⟩]
                  rw [hN3] at HX
                  have k3' : (line.length : Int) < 3 := by omega
                  obtain ⟨i0, hi0, hz0, hz1, hz2⟩ := info_parts info9
                  gi_wp2_with (gi_at_builtin; go_must (refine wpListIn_append_full _ rfl _ _ 82 rfl B 9 i0 _ 1 16 Try.underlying82 hi0 hz0 hz1 hz2 rfl (by decide) _ _ _ rfl (hR3.out.alloc _) ⟨W3.heap.size, 0, none⟩ 1 1 [.string (s.extract i (i + m))] rfl rfl (cells_new _ _ _) (by simp [Value.oneCell']) (by unfold maxLen; omega) (by omega) (by have := HS3.out; simp; omega) ?_); intro v' w3 hown' hgrow _)
                  go_roundw
                  case rel =>
                    have hG := grown_alloc hgrow
                    have hrow := fun r e => (row_obj hR3.out r e).1
                    refine ⟨i + m, pre ++ [(⟨k, s.extract i (i + m), i, (i : Int) + (m : Int), sp⟩, 0)], false, line ++ [s.extract i (i + m)], v', rfl, by go_num, rfl, hb0, by simp; omega, ⟨by rw [← HX.out, List.append_assoc]; rfl⟩, ⟨?_⟩, ?_, ⟨?_⟩, ⟨?_⟩, ⟨?_⟩⟩
                    · exact HJa.out _ W3 w3 _ HJ3.out hG (fun r e => by obtain ⟨h1, cur, h2⟩ := row_obj hR3.out r e; exact ⟨h1, _, h2, .inr ⟨_, _, rfl⟩⟩)
                    · exact hq3.kept hG (fun e => by have := hrow Bn e.symm; omega)
                    · obtain ⟨mx, hmx⟩ := hM3.out
                      exact ⟨mx, hG.cell hmx (fun e => by have := hrow 0 e.symm; omega)⟩
                    · rw [List.length_append, List.length_singleton]
                      unfold lineV at *
                      rw [List.map_append]
                      exact hown'
                    · have h1 := hgrow.size
                      have h2 := HS3.out
                      simp at h1
                      omega
                  case measure => simp [intOf]; omega
            · have HX3 := Aside0.mk hJx3
              clear hJx3 hR hy
              gi_wp2
              refine bodyPost_ret (results_none rfl _ _ _) rfl ?_
              exact ⟨⟨_, rfl⟩, .inr ⟨_, ⟨_, by rw [← HX.out, List.append_assoc]; rfl⟩, HX3.out⟩⟩
          · have ht0 : textOf ((L s).drop i) 0 = ByteArray.empty := rfl
            have hx : ∀ e', e = e' → e' ≠ 0 → pre ++ [(⟨0, ByteArray.empty, i, (i : Int), sp⟩, e')] = toksF 0 false [] (L s) := by
              rintro e' rfl he'
              rw [← HP.out, HTe.out 0 0 e he' hp]
              unfold tokOf
              rw [ht0]
              simp
            have HX := Aside0.mk hx
            clear hx ht0 HT HTe hp
            dsimp only at he
            have he0 : e ≠ 0 := by omega
            have he' : (e != 0) = true := bne_iff_ne.mpr he0
            have hx := HX.out _ rfl he0
            have hl0 : pre ++ [((⟨0, ByteArray.empty, i, (i : Int), sp⟩, e) : S26 × Int)] <+: toksF 0 false [] (L s) := ⟨[], by rw [List.append_nil]; exact hx⟩
            have HX := Aside0.mk hx
            clear hx
            gi_wp2_with (first
              | (refine ⟨trivial, ?_⟩; gi_at_call 106; refine (callsIn_wide.2 (scan_white.calls ((at_ s i).toNat : Int) false _ hW.out)).mono ?_; rintro e1 w1 ⟨rfl, ⟨nd, rfl⟩⟩)
              | (refine ⟨trivial, ?_⟩; gi_at_call 107; refine (callsIn_wide.2 (HF'.out _ (has_drewN HM.out _))).mono ?_; rintro e2 w2 ⟨rfl, hb2⟩; dsimp only [res3]; have hq2 : w2.cell? ⟨Bn, 0, none⟩ = some (.string s) := (hb2.cell (p := ⟨Bn, 0, none⟩) hBn).trans hq
                 have hb3 : Below wr.heap.size wr (w2.alloc (.cells (tokB ⟨0, ByteArray.empty, i, (i : Int), sp⟩) 26)) := below_alloc (below_step (pw_below_drewN (Below.refl _ _) nd) hb2) _
                 obtain ⟨fn, tmps, assign, body, hy, hR⟩ := HY.out pre (⟨0, ByteArray.empty, i, (i : Int), sp⟩, e) _ (HJa.out pre wr _ none HJ.out (grown_of_below hb3 none) (by simp)) hl0
                 clear hb2 hb3
                 dsimp only [encT, tokB] at hy))
            refine hR.mono ?_
            rintro e3 W3 (⟨rfl, hJ3, hk3⟩ | ⟨rfl, hJx3⟩)
            · have HJ3 := Aside0.mk hJ3
              clear hJ3 hk3 hR hy
              gi_wp2
              refine bodyPost_ret (results_none rfl _ _ _) rfl ?_
              exact ⟨⟨_, rfl⟩, .inl ⟨_, HX.out, HJ3.out⟩⟩
            · have HX3 := Aside0.mk hJx3
              clear hJx3 hR hy
              gi_wp2
              refine bodyPost_ret (results_none rfl _ _ _) rfl ?_
              exact ⟨⟨_, rfl⟩, .inr ⟨_, ⟨[], by rw [List.append_nil]; exact HX.out⟩, HX3.out⟩⟩
    · have hie : i = s.size := by omega
      subst hie
      gi_wp2
      go_end0
      refine ⟨⟨_, rfl⟩, .inl ⟨pre, ?_, HJ.out⟩⟩
      have := HP.out
      rwa [List.drop_eq_nil_of_le (by rw [L_length]; omega), toksF_nil, List.append_nil] at this
end Go.Proofs.Ytonfmnohmigjpaa.P
