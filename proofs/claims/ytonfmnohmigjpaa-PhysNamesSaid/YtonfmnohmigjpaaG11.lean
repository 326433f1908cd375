/- The walk of the closed law PhysNames: every answer on the way is a constant. -/
import Derived.Test.YtonfmnohmigjpaaPsh
import Derived.Test.YtonfmnohmigjpaaF40
import Derived.Test.YtonfmnohmigjpaaG32
import Derived.Test.YtonfmnohmigjpaaG42
import Derived.Test.YtonfmnohmigjpaaG45
import Derived.Test.YtonfmnohmigjpaaPurePhysBack
namespace Go.Proofs.Ytonfmnohmigjpaa.P
open Go.RowKit Go.Proofs.YtonfmnohmigjpaaW.PrintWords Go.Proofs.YtonfmnohmigjpaaW.PrintLast Go.Proofs.YtonfmnohmigjpaaW.PrintMore
attribute [local go_sem] max2_int min2_int max_two min_two max_three min_three max_four min_four
attribute [local go_sem high] eqA55 eqA70

def cL : List S55 := [⟨97, 0, 1⟩, ⟨35, 1, 3⟩, ⟨98, 6, 1⟩, ⟨10, 7, 1⟩]
def cM : List S70 := [⟨4, 6⟩]
theorem n1 : phys_Chars.f (⟨#[97, 63, 63, 61, 92, 10, 98, 10]⟩ : ByteArray) = some (cL, 0) := by kernel_rfl
theorem n2 : phys_Splices.f (⟨#[97, 63, 63, 61, 92, 10, 98, 10]⟩ : ByteArray) = some (cM, 0) := by kernel_rfl
theorem n3 : phys_Logical.f (⟨#[63, 92, 10, 63, 61, 10]⟩ : ByteArray) = some (⟨#[63, 63, 61, 10]⟩, 0) := by kernel_rfl
theorem n4 : phys_Spell.f (⟨#[63, 63, 61, 10]⟩ : ByteArray) = some (⟨#[63, 92, 10, 63, 61, 10]⟩, 0) := by kernel_rfl
theorem n5 : phys_Spell.f (⟨#[92, 10]⟩ : ByteArray) = some (⟨#[92, 92, 10, 10]⟩, 0) := by kernel_rfl
theorem n6 : phys_Third.f 47 = some (92, true) := by kernel_rfl
theorem n7 : phys_Third.f 92 = some (0, false) := by kernel_rfl
theorem n8 : phys_Check.f (⟨#[97]⟩ : ByteArray) = some 10 := by kernel_rfl
theorem n9 : phys_Check.f (⟨#[97, 92, 10]⟩ : ByteArray) = some 10 := by kernel_rfl
theorem n10 : phys_Check.f (⟨#[97, 92, 92, 10]⟩ : ByteArray) = some 10 := by kernel_rfl
theorem n11 : phys_Check.f (⟨#[]⟩ : ByteArray) = some 0 := by kernel_rfl
theorem n12 : phys_Check.f (⟨#[97, 63, 63, 47, 10]⟩ : ByteArray) = some 10 := by kernel_rfl
theorem n13 : phys_Check.f (⟨#[10]⟩ : ByteArray) = some 0 := by kernel_rfl
theorem n14 : phys_Spell.f (⟨#[97]⟩ : ByteArray) = some (⟨#[]⟩, 10) := by kernel_rfl

theorem set_rep (i N : Nat) (h : i < N) : (List.replicate i (10 : Int) ++ List.replicate (N - i) 0).set i 10 = List.replicate (i + 1) 10 ++ List.replicate (N - (i + 1)) 0 := by
  obtain ⟨m, hm⟩ : ∃ m, N - i = m + 1 := ⟨N - i - 1, by omega⟩
  rw [hm, show N - (i + 1) = m by omega, List.replicate_succ (n := m), List.set_append_right _ _ (by simp), List.length_replicate, Nat.sub_self, List.set_cons_zero, List.replicate_succ' (n := i), List.append_assoc]
  rfl
theorem L_nums (n : Nat) : L (strOfNums (List.replicate n 10)) = List.replicate n 10 := by
  unfold strOfNums
  rw [L_mk, List.map_replicate]; rfl
theorem big_spell (n : Nat) (h : n = 65537) : phys_Spell.f (strOfNums (List.replicate n 10)) = some (⟨#[]⟩, 3) := by
  unfold phys_Spell.f
  rw [L_nums]
  unfold spellR
  rw [if_pos (by rw [List.length_replicate]; omega)]
theorem big_check (n : Nat) (h : n = 65537) : phys_Check.f (strOfNums (List.replicate n 10)) = some 3 := by
  unfold phys_Check.f
  rw [L_nums]
  unfold checkR
  rw [if_pos (by rw [List.length_replicate]; omega)]
theorem pieces_nl (n : Nat) : ∀ i, ∀ p ∈ piecesF i (List.replicate n (10 : UInt8)), p.2 = false := by
  induction n with
  | zero => intro i p hp; rw [List.replicate_zero, piecesF_nil] at hp; simp at hp
  | succ n ih =>
    intro i p hp
    have ht : triU (10 :: List.replicate n (10 : UInt8)) = none := tri_a 10 _ (by decide)
    rw [List.replicate_succ, piece_plain i 10 _ ht (by rw [splN ht]; rfl)] at hp
    rcases List.mem_cons.1 hp with rfl | hp
    · rfl
    · exact ih _ p hp
theorem big_ok (n : Nat) (h1 : 0 < n) (h : n ≤ 65536) : phys_Check.f (strOfNums (List.replicate n 10)) = some 0 := by
  unfold phys_Check.f
  rw [L_nums, (check_iff _).2]
  refine ⟨by rw [List.length_replicate]; exact h, fun _ => ⟨?_, ?_⟩⟩
  · rw [List.getLast?_replicate, if_neg (by omega)]
  · rw [← ends_last _ _ 0 (List.replicate n (10 : UInt8)).length rfl (by omega) (by rw [List.length_replicate]; omega), List.any_eq_false]
    intro p hp hb
    unfold badP at hb
    rw [pieces_nl n 0 p hp] at hb
    simp at hb
theorem cut_string {w : World} {base g i cb : Nat} (h : Kd.R (Kd.int .u8) 5 w base (fun _ => True) (.slice (some ⟨g, 0, none⟩) i cb) (List.replicate i 10)) (hi : 1 < i) :
    (convert 72 9 (.slice (some ⟨g, 1, none⟩) (i - 1) (cb - 1))).run Try.prog w = .ok (.string (strOfNums (List.replicate (i - 1) 10))) w := by
  have hm : i ≤ maxLen := by
    rcases (Kd.own_of_R h).2 with ⟨h1, _⟩ | ⟨g', cap, cur, h1, _, _, h2, h3, _⟩
    · cases h1
    · simp only [List.length_replicate] at h2; omega
  obtain ⟨_, _, ad, e, hc⟩ : True ∧ True ∧ ∃ ad, (some ⟨g, 0, none⟩ : Option Addr) = some ad ∧ ∀ j, j < i → w.cell? (ad.add j) = some (.int .u8 ((List.replicate i (10 : Int)).getD j 0)) := by
    have h3 := Kd.reads_of_C (enc := Value.int .u8) (d := (0 : Int)) (h1 := fun _ => rfl) (Kd.R_reads' h).2.2
    rw [List.length_replicate] at h3
    exact ⟨trivial, trivial, h3.2.2 (by omega)⟩
  cases e
  refine string_of_reads (P := Try.prog) Try.underlying72 Try.underlying5 Try.underlying9 ?_
  refine ⟨by rw [List.length_replicate], by unfold maxLen at hm; omega, fun _ => ⟨_, rfl, fun j hj => ?_⟩⟩
  have h4 := hc (j + 1) (by omega)
  rw [add_plain] at h4
  rw [show (⟨g, 1, none⟩ : Addr).add j = ⟨g, j + 1, none⟩ by unfold Addr.add; simp [Nat.add_comm]]
  rw [h4]
  simp [List.getD_eq_getElem?_getD, hj, show j + 1 < i by omega]
set_option maxHeartbeats 2000000 in
set_option maxRecDepth 100000 in
theorem names_walk (w : World) : Calls Try.prog 11 #[] w fun e w' => e = .returned (.bool true) ∧ Below w.heap.size w w' := by
  have hu55 := Try.underlying55
  have hu70 := Try.underlying70
  obtain ⟨cs, N1, hl4, r1, r2⟩ : ∃ cs, phys_Chars.f (⟨#[97, 63, 63, 61, 92, 10, 98, 10]⟩ : ByteArray) = some (cs, 0) ∧ cs.length = 4 ∧ rd_T55 cs 1 = ⟨35, 1, 3⟩ ∧ rd_T55 cs 2 = ⟨98, 6, 1⟩ := ⟨cL, n1, rfl, rfl, rfl⟩
  obtain ⟨ms, N2, hl1, r3⟩ : ∃ ms, phys_Splices.f (⟨#[97, 63, 63, 61, 92, 10, 98, 10]⟩ : ByteArray) = some (ms, 0) ∧ ms.length = 1 ∧ rd_T70 ms 0 = ⟨4, 6⟩ := ⟨cM, n2, rfl, rfl⟩
  have N1 := Aside0.mk N1
  have N2 := Aside0.mk N2
  have hl4 := Aside0.mk hl4
  have hl1 := Aside0.mk hl1
  have r1 := Aside0.mk r1
  have r2 := Aside0.mk r2
  have r3 := Aside0.mk r3
  go_enter Try.func11, Try.ntmps11
  go_wp2_with (first
    | (go_at_call 41; refine (phys_Chars.calls _ cs 0 _ N1.out).mono ?_; rintro e w1 ⟨vl, rfl, hRl, hB1⟩; obtain ⟨gl, cl, rfl, _, _, hcl, _⟩ := Kd.R_form hRl (by rw [hl4.out]; decide); have hCl := Aside0.mk (Kd.R_reads' hRl).2.2; have hlen_l := hl4.out; rw [hl4.out])
    | (go_at_call 45; refine (phys_Splices.calls _ ms 0 _ N2.out).mono ?_; rintro e w2 ⟨vm, rfl, hRm, hB2⟩; obtain ⟨gm, cm, rfl, _, _, hcm, _⟩ := Kd.R_form hRm (by rw [hl1.out]; decide); have hCm := Aside0.mk (Kd.R_reads' hRm).2.2; rw [hl1.out])
    | (go_at_call 42; refine (phys_Logical.calls _ _ _ _ n3).mono ?_; rintro e w3 ⟨rfl, hB3⟩)
    | (go_at_call 32; first | (with_reducible refine (phys_Spell.calls (⟨#[63, 63, 61, 10]⟩ : ByteArray) _ _ _ n4).mono ?_; rintro e w4 ⟨rfl, hB4⟩) | (with_reducible refine (phys_Spell.calls (⟨#[92, 10]⟩ : ByteArray) _ _ _ n5).mono ?_; rintro e w5 ⟨rfl, hB5⟩))
    | (go_at_call 40; refine (regletlaw01_alive.calls true _ alive_true).mono ?_; rintro e w6 ⟨rfl, hB6⟩
       have HBm : Below w2.heap.size w2 w6 := below_step (below_step (below_step hB3 hB4) hB5) hB6
       have HBl : Below w1.heap.size w1 w6 := below_step hB2 HBm
       have HB6 := Aside0.mk (below_step hB1 HBl)
       obtain ⟨ad, e1, a0, a1, a2⟩ := at_T55 hCl.out 1 (by decide) (by rw [hl4.out]; decide)
       obtain ⟨ad', e2, b0, b1, b2⟩ := at_T55 hCl.out 2 (by decide) (by rw [hl4.out]; decide)
       cases e1
       cases e2
       obtain ⟨am, e3, d0, d1⟩ := at_T70 hCm.out 0 (by decide) (by rw [hl1.out]; decide)
       cases e3
       rw [r1.out] at a0 a1 a2
       rw [r2.out] at b0 b1 b2
       rw [r3.out] at d0 d1
       simp only [Int.reduceToNat, Nat.reduceMul, add_plain, Nat.reduceAdd, Nat.zero_add] at a0 a1 a2 b0 b1 b2 d0 d1
       replace a0 := pw_cell_below HBl a0
       replace a1 := pw_cell_below HBl a1
       replace a2 := pw_cell_below HBl a2
       replace b0 := pw_cell_below HBl b0
       replace b1 := pw_cell_below HBl b1
       replace b2 := pw_cell_below HBl b2
       replace d0 := pw_cell_below HBm d0
       replace d1 := pw_cell_below HBm d1
       clear HBm HBl hB1 hB2 hB3 hB4 hB5 hB6)
    | (go_at_call 34; first | (with_reducible refine (phys_Third.calls 47 92 true _ n6).mono ?_; rintro e w7 ⟨rfl, ⟨nd7, rfl⟩⟩) | (with_reducible refine (phys_Third.calls 92 0 false _ n7).mono ?_; rintro e w8 ⟨rfl, ⟨nd8, rfl⟩⟩))
    | (go_at_call 47; (first | (with_reducible refine (phys_Check.calls (⟨#[97]⟩ : ByteArray) 10 _ n8).mono ?_) | (with_reducible refine (phys_Check.calls (⟨#[97, 92, 10]⟩ : ByteArray) 10 _ n9).mono ?_) | (with_reducible refine (phys_Check.calls (⟨#[97, 92, 92, 10]⟩ : ByteArray) 10 _ n10).mono ?_) | (with_reducible refine (phys_Check.calls (⟨#[]⟩ : ByteArray) 0 _ n11).mono ?_) | (with_reducible refine (phys_Check.calls (⟨#[97, 63, 63, 47, 10]⟩ : ByteArray) 10 _ n12).mono ?_) | (with_reducible refine (phys_Check.calls (⟨#[10]⟩ : ByteArray) 0 _ n13).mono ?_)); rintro e w9 ⟨rfl, hb⟩; have n0 := Aside0.mk (show Below w.heap.size w w9 by first | exact below_step HB6.out hb | exact below_step (pw_below_drewN HB6.out _) hb); clear HB6; have HB6 := n0; clear n0 hb)
    | ((with_reducible refine gate_dst (N := 136) rfl ?_); (try (refine gate_guard (by rfl) ?_; dsimp only)); refine Kd.R_make (Kd.int .u8) _ 5 rfl (N := 136) rfl 72 _ _ rfl 65537 rfl rfl Try.underlying72 (.int .u8 0) 1 info5 rfl (by decide) (by omega) 0 (ok := fun _ => True) (okp := fun _ => True) rfl (fun _ hk => hk) trivial (by omega) (by omega) (Below.refl _ _) (Nat.le_refl _) ?_; intro vb wb hob hbb hgb hnb
       obtain ⟨N, hN⟩ : ∃ N : Nat, N = (65537 : Int).toNat := ⟨_, rfl⟩
       rw [← hN] at hob
       have hob := Kd.R_lower hob (below_size HB6.out)
       obtain ⟨gb, cb, rfl, hgb1, hgb2, _⟩ := Kd.R_form hob (by rw [List.length_replicate, hN]; decide)
       rw [List.length_replicate] at hob ⊢
       replace hob := Aside0.mk hob
       have hNs : N ≤ 65537 := by rw [hN]; decide
       replace hN := Aside0.mk hN
       have n0 := Aside0.mk (below_step HB6.out hbb)
       clear HB6 hgb hnb
       have HB6 := n0
       clear n0))
  go_loopw [18] (fun v18 wr => ∃ i : Nat, v18 = .int .i64 i ∧ i ≤ N ∧ Aside0 (Kd.R (Kd.int .u8) 5 wr w.heap.size (fun _ => True) (.slice (some ⟨gb, 0, none⟩) N cb) (List.replicate i 10 ++ List.replicate (N - i) 0)) ∧ Aside0 (Below w.heap.size w wr)) (fun v18 _ => N - (intOf v18).toNat)
  case atStart => exact ⟨0, rfl, Nat.zero_le _, ⟨by rw [List.replicate_zero, List.nil_append, Nat.sub_zero]; exact hob.out⟩, HB6⟩
  case round =>
    obtain ⟨i, rfl, hi, HO, HB⟩ := hrel
    clear hob HB6 hCl hCm a0 a1 a2 b0 b1 b2 d0 d1 hbb
    by_cases hlt : i < N
    · have p86 : 0 ≤ (i : Int) := by omega
      have q86 : (i : Int) < (N : Int) := by omega
      obtain ⟨hx86, hf86⟩ := Kd.R_celln 0 HO.out (i : Int) p86 q86
      have HP88 := Kd.R_putg HO.out (i : Int) 10
      rw [Int.toNat_natCast, set_rep i N hlt] at HP88
      rw [Int.toNat_natCast] at hx86 hf86
      have d86 : decide ((i : Int) < (N : Int)) = true := decide_eq_true q86
      replace p86 := eq_true p86
      replace q86 := eq_true q86
      go_wp2_with ((with_reducible refine gate_store (t := 5) (p := 145) rfl ?_); refine store_event (t := 5) (p := 145) (v := ?vo_w89) (w1 := (wr.setCell ⟨gb, i, none⟩ (.int .u8 10))) ?hg ?ho ?hn ?hr ?_; (case ho => rfl); (case hg => rfl); (case hn => rfl); (case hr => first | (go_simp; done) | (go_simp; rfl)); intro w89 hw; have hg : wr.grownBy w89 (some gb) := (by rw [hw]; exact HP88.2); have hp_ : Kd.R (Kd.int .u8) 5 w89 w.heap.size (fun _ => True) (.slice (some ⟨gb, 0, none⟩) N cb) (List.replicate (i + 1) 10 ++ List.replicate (N - (i + 1)) 0) := (by rw [hw]; exact HP88.1); have n0_ := Aside0.mk (hp_); have n1_ := Aside0.mk ((by rw [hw]; exact below_set (HB.out) hgb1 : Below w.heap.size w w89)); clear HO; clear HB; have HO := n0_; have HB := n1_; clear n0_ n1_; clear hg hw hp_ HP88)
      go_roundw
      case rel => exact ⟨i + 1, by go_num, by omega, HO, HB⟩
      case measure => simp [intOf]; omega
    · have hie : i = N := by omega
      subst hie
      rw [Nat.sub_self, List.replicate_zero, List.append_nil] at HO
      have hcv := own_string (P := Try.prog) Try.underlying72 Try.underlying5 Try.underlying9 (Kd.own_of_R HO.out)
      have HS := Aside0.mk (big_spell i hN.out)
      have HC3 := Aside0.mk (big_check i hN.out)
      have HC4 := Aside0.mk (big_ok (i - 1) (by rw [hN.out]; decide) (by rw [hN.out]; decide))
      have hcb : i ≤ cb := (Kd.R_reads' HO.out).2.1
      have h1i : 1 < i := by rw [hN.out]; decide
      have hne : ¬ cb = 1 := by omega
      have h1I : (1 : Int) ≤ (i : Int) := by omega
      replace hcb := Aside0.mk hcb
      replace hN := Aside0.mk hN
      go_wp2_with (first
        | (go_at_call 32; (first | (with_reducible refine (phys_Spell.calls (strOfNums (List.replicate i 10)) _ _ _ HS.out).mono ?_) | (with_reducible refine (phys_Spell.calls (⟨#[97]⟩ : ByteArray) _ _ _ n14).mono ?_)); rintro e w10 ⟨rfl, hb⟩
           have n0 := Aside0.mk (Kd.R_below HO.out hb)
           have n1 := Aside0.mk (below_step HB.out hb)
           clear HO HB hcv hb
           have HO := n0
           have HB := n1
           clear n0 n1
           have hcv := own_string (P := Try.prog) Try.underlying72 Try.underlying5 Try.underlying9 (Kd.own_of_R HO.out))
        | (go_at_call 47; first
            | (with_reducible refine (phys_Check.calls (strOfNums (List.replicate i 10)) _ _ HC3.out).mono ?_
               rintro e w11 ⟨rfl, hb⟩
               have n0 := Aside0.mk (Kd.R_below HO.out hb)
               have n1 := Aside0.mk (below_step HB.out hb)
               clear HO HB hcv hb
               have HO := n0
               have HB := n1
               clear n0 n1
               have hcv2 := cut_string HO.out h1i)
            | (with_reducible refine (phys_Check.calls (strOfNums (List.replicate (i - 1) 10)) _ _ HC4.out).mono ?_
               rintro e w12 ⟨rfl, hb⟩
               have n1 := Aside0.mk (below_step HB.out hb)
               clear HO HB hb
               have HB := n1
               clear n1)))
      go_ret
      exact ⟨rfl, HB.out⟩
end Go.Proofs.Ytonfmnohmigjpaa.P
