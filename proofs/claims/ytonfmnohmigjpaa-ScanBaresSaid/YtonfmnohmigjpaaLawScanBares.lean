/- 'scan.Bare' answers, for any list of tokens, what the document's 'Bare' answers; the list that was passed stays, and what is answered is new memory. No condition. -/
import Derived.Test.YtonfmnohmigjpaaFacts
import Derived.Test.YtonfmnohmigjpaaF3
import Derived.Test.YtonfmnohmigjpaaOpn
import Derived.WalkKit
import Derived.ProofKit
import Derived.OpenShut
import Derived.ShutString
import Derived.ChangeOld
import Derived.Below
import Derived.SizedLaws
namespace Go.Proofs.Ytonfmnohmigjpaa.P
open Go.RowKit Go.Proofs.YtonfmnohmigjpaaW.PrintWords Go.Proofs.YtonfmnohmigjpaaW.PrintLast Go.Proofs.YtonfmnohmigjpaaW.PrintMore

theorem same_refl_l (l : List S26) (hn : l.length ≤ 140737488351232) (d : Nat) : ∀ (k : Nat) (i : Nat), i ≤ l.length → l.length - i = d → d < k → regletref02_Same.l0 k l l (i : Int) = some true := by
  induction d with
  | zero =>
    intro k i h1 hd hk
    obtain ⟨k, rfl⟩ : ∃ m, k = m + 1 := ⟨k - 1, by omega⟩
    simp only [regletref02_Same.l0]
    rw [if_neg (by omega)]
  | succ d ih =>
    intro k i h1 hd hk
    obtain ⟨k, rfl⟩ : ∃ m, k = m + 1 := ⟨k - 1, by omega⟩
    simp only [regletref02_Same.l0]
    rw [if_pos (by omega), if_pos (by omega), if_pos (by omega), if_neg (by simp), w64_succ i _ (by omega) hn]
    exact ih k (i + 1) (by omega) (by omega) (by omega)
theorem same_refl (l : List S26) (hn : l.length ≤ 140737488351232) : Ev (fun k => regletref02_Same.f k l l) true := by
  refine ⟨l.length + 1, fun k hk => ?_⟩
  unfold regletref02_Same.f
  dsimp only
  rw [if_pos rfl]
  exact same_refl_l l hn l.length k 0 (by omega) (by omega) (by omega)

theorem scanBares_l (l y : List S26) (hn : l.length ≤ 140737488351232) : ∀ (d : Nat) (x : List S26) (i : Nat), x.length ≤ 140737488351232 → i ≤ x.length → x.length - i = d → y = l → Ev (fun k => regletlaw02_ScanBares.l0 k l y x (i : Int)) true := by
  intro d
  induction d with
  | zero =>
    intro x i hx h1 hd hy
    subst hy
    refine Ev.step (f := fun k => (regletref02_Same.f k y y).bind fun t117 => some t117) (fun k => ?_) (Ev.bind (same_refl y hn) (Ev.now _))
    simp only [regletlaw02_ScanBares.l0]
    rw [if_neg (by omega)]
  | succ d ih =>
    intro x i hx h1 hd hy
    have := ih (x.set i (⟨0, (⟨#[119, 114, 105, 116, 116, 101, 110, 32, 111, 118, 101, 114]⟩ : ByteArray), 0, 0, false⟩ : S26)) (i + 1) (by simpa using hx) (by simp; omega) (by simp; omega) hy
    refine Ev.step (fun k => ?_) this
    simp only [regletlaw02_ScanBares.l0]
    rw [if_pos (by omega), if_pos (by omega), w64_succ i _ (by omega) hx]
    simp only [Int.toNat_natCast]

theorem scanBares_pure (l : List S26) (h : l.length * 48 ≤ 140737488351232) : ∃ k, regletlaw02_ScanBares.f k l = some true := by
  have hl : l.length ≤ 2932031007400 := by omega
  have hb := bareF_length false l
  refine Ev.rounds ?_
  unfold regletlaw02_ScanBares.f
  simp only [Option.bind_some, List.nil_append, List.length_nil, Nat.zero_add]
  simp only [if_pos (show l.length < 2932031007402 by omega)]
  have e1 : scan_Bare.f l = some (bareF false l) := by unfold scan_Bare.f; rw [if_pos hl]
  have e2 : regletref02_Bare.f l = some (bareF false l) := by unfold regletref02_Bare.f; rw [if_pos hl]
  simp only [e1, e2, Option.bind_some]
  refine Ev.bind (same_refl _ (by omega)) ?_
  simp only [if_true]
  exact scanBares_l l l (by omega) _ _ 0 (by omega) (by omega) rfl rfl
end Go.Proofs.Ytonfmnohmigjpaa.P

namespace Go.Proofs.Ytonfmnohmigjpaa.scanBares
open Go.ChangeShapes Go.WideShapes Go.ChangeAt Go.RowKit
open Go.ChangeMaps (open_string shut_string)
open P (own laidOut)
theorem bytes26 : Try.prog.bytesOf 26 = 48 := by kernel_rfl
set_option maxRecDepth 100000 in
theorem lifted (os : Os) (started : os.Started) (H : Type) (enc : TypeId × Value → H) :
    ReturnsInHanded {} Try.checked os 3 .any (Rows.scanBaresSpec.pre6 enc Try.prog Try.f3 Rows.scanBaresRow.domain false) (Rows.scanBaresSpec.post enc Try.prog Try.f3 false true false false) := by
  refine returnsInHanded_of_change_sized (C := Try.checked) own started (by kernel_rfl) Try.func3
    (ChangeSpec.witness6 (enc := enc) (C := Try.checked) false ⟨#[], #[.slice none 0 0], []⟩ 8 (by kernel_rfl) (by kernel_rfl) (by kernel_rfl) (by kernel_rfl)) ?_
  intro W base args ds gs before hval0 hW hcnd hsz0 _
  have hsz : (DataW.weightsEach Try.prog (Try.f3.params.toList ++ Rows.scanBaresSpec.plain.varTypes Try.prog) (ds ++ gs)).all (· ≤ reachBytes) = true := hsz0
  have hval : ∀ (j : Nat) t v, Try.f3.params[j]? = some t → args[j]? = some v → Value.okWide Try.prog W .any base t v := hval0
  have hW' := hW
  obtain ⟨p, q, hA0, hV, rfl, hfz, hnd⟩ := hW
  have hA : DataW.TrodAll enc Try.prog W 0 (fun _ => true) true Try.f3.params.toList args.toList ds p := hA0
  rw [Try.params3] at hA hval hsz
  obtain ⟨v0, vs0, d0, ds0, p0, q0, hargs, rfl, rfl, h0, r0⟩ := trodAll_cons hA
  obtain ⟨rfl, rfl, rfl⟩ := trodAll_nil r0
  obtain rfl : args = #[v0] := by cases args; simp_all
  obtain ⟨rfl, rfl⟩ := trodVars_none hV
  obtain ⟨a0, len0, cap0, rfl⟩ := okWide_slice Try.underlying22 (hval 0 22 v0 rfl rfl)
  have k0 := h0
  have lt0 : ∀ x ∈ p0, x.block < W.heap.size := by obtain ⟨m, hm⟩ := k0; exact DataW.trod_lt m _ _ _ hm
  obtain ⟨fuel, hf⟩ := h0
  obtain ⟨A, c, l, hcs, hlc, hC, hb48, _⟩ := P.C_of_trod (bytes := 48) Try.underlying22 bytes26 P.opens_26 hf (fun n hn => by
    have := List.all_eq_true.1 hsz n (DataW.weights_mem_each (j := 0) (t := 22) rfl rfl n hn)
    simpa using this)
  simp [Value.cells] at hcs
  obtain ⟨rfl, rfl, rfl⟩ := hcs
  clear hA0 hval0 hsz0 hsz
  obtain ⟨k, hk⟩ := P.scanBares_pure l hb48
  refine (P.regletlaw02_ScanBares.calls k _ _ l true W hC hlc hk).mono fun e W' ⟨he, bel⟩ => ?_
  subst he
  exact ⟨_, rfl, _, _, _, [], _, [], hW', trodAll_mk1 (shut_bool Try.underlying4 _), (trodAll_cons_mk (Below.trod laidOut (by kernel_rfl) (of_decide_eq_true (by kernel_rfl)) k0 bel lt0) trodAll_mk0), rfl, bel.frame _, fun h => by cases h⟩
set_option maxRecDepth 100000 in
theorem closed : joinedFacts Try.pinned.checked.prog 3 Try.f3 Rows.scanBaresSpec Rows.scanBaresRow = true := by
  unfold joinedFacts
  repeat' (with_reducible refine Bool.and_eq_true_iff.2 ⟨?_, ?_⟩)
  · as_aux_lemma => kernel_rfl
  · exact P.fLaid
  · exact P.fRowed
  · as_aux_lemma => kernel_rfl
  · as_aux_lemma => kernel_rfl
  · as_aux_lemma => kernel_rfl
  · as_aux_lemma => kernel_rfl
  · as_aux_lemma => kernel_rfl
  · as_aux_lemma => kernel_rfl
  · as_aux_lemma => kernel_rfl
  · as_aux_lemma => kernel_rfl
  · as_aux_lemma => kernel_rfl
  · as_aux_lemma => kernel_rfl
  · as_aux_lemma => kernel_rfl
  · as_aux_lemma => kernel_rfl
  · as_aux_lemma => kernel_rfl
  · as_aux_lemma => kernel_rfl
  · as_aux_lemma => kernel_rfl
  · as_aux_lemma => kernel_rfl
  · as_aux_lemma => kernel_rfl
  · as_aux_lemma => kernel_rfl
  · as_aux_lemma => kernel_rfl
  · as_aux_lemma => kernel_rfl
  · as_aux_lemma => kernel_rfl
  · exact P.fHeard
  · exact P.fMay
  · rw [P.fLift]; rfl
  · exact P.fMake
  · as_aux_lemma => kernel_rfl
  · as_aux_lemma => kernel_rfl
  · as_aux_lemma => kernel_rfl
  · as_aux_lemma => kernel_rfl
theorem over : Rows.scanBaresRow.holds Try.pinned (OpenSpec.ofChange Rows.scanBaresSpec) :=
  OpenClaim.holds_of_wide 3 Try.f3 rfl rfl rfl rfl rfl rfl rfl ⟨rfl, rfl, rfl, rfl, rfl⟩ rfl rfl rfl rfl rfl (by kernel_rfl) Try.func3 closed
    (of_decide_eq_true (by kernel_rfl)) (by unfold Func.isWrapper; first | (rw [if_pos (by decide +kernel)]; kernel_rfl) | (rw [if_neg (by decide +kernel)]; exact ⟨rfl, rfl⟩))
    (fun os started H enc _ => lifted os started H enc)
end Go.Proofs.Ytonfmnohmigjpaa.scanBares
namespace Go.Proofs.Ytonfmnohmigjpaa
/-- The row, under a short name, for the claim. -/
theorem scanBares_holds : Rows.ScanBaresSaid := scanBares.over
end Go.Proofs.Ytonfmnohmigjpaa
