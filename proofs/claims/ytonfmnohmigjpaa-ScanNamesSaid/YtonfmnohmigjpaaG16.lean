/- The closed law regletlaw02.ScanNames: the chapter's examples, one after the other. -/
import Derived.Test.YtonfmnohmigjpaaFD
import Derived.Test.YtonfmnohmigjpaaF60
import Derived.Test.YtonfmnohmigjpaaG24
import Derived.Test.YtonfmnohmigjpaaG51
import Derived.Test.YtonfmnohmigjpaaG53
import Derived.Test.YtonfmnohmigjpaaG56
namespace Go.Proofs.Ytonfmnohmigjpaa.P
open Go.RowKit Go.Proofs.YtonfmnohmigjpaaW.PrintWords Go.Proofs.YtonfmnohmigjpaaW.PrintLast Go.Proofs.YtonfmnohmigjpaaW.PrintMore
attribute [local go_sem] max2_int min2_int max_two min_two max_three min_three max_four min_four
theorem sxT0 : regletlaw02_texts.f 40 (⟨#[49, 46, 101, 43, 120, 46, 121, 45, 49, 10]⟩ : ByteArray) [(⟨#[49, 46, 101, 43, 120, 46, 121]⟩ : ByteArray), (⟨#[45]⟩ : ByteArray), (⟨#[49]⟩ : ByteArray), (⟨#[10]⟩ : ByteArray)] (⟨#[50, 53, 50, 57]⟩ : ByteArray) = some true := by decide +kernel
theorem sxT1 : regletlaw02_texts.f 40 (⟨#[35, 105, 110, 99, 108, 117, 100, 101, 32, 60, 97, 47, 47, 98, 62, 10]⟩ : ByteArray) [(⟨#[35]⟩ : ByteArray), (⟨#[105, 110, 99, 108, 117, 100, 101]⟩ : ByteArray), (⟨#[60, 97, 47, 47, 98, 62]⟩ : ByteArray), (⟨#[10]⟩ : ByteArray)] (⟨#[53, 49, 55, 57]⟩ : ByteArray) = some true := by decide +kernel
theorem sxT2 : regletlaw02_texts.f 40 (⟨#[120, 32, 60, 97, 62, 32, 121, 10]⟩ : ByteArray) [(⟨#[120]⟩ : ByteArray), (⟨#[60]⟩ : ByteArray), (⟨#[97]⟩ : ByteArray), (⟨#[62]⟩ : ByteArray), (⟨#[121]⟩ : ByteArray), (⟨#[10]⟩ : ByteArray)] (⟨#[49, 53, 49, 53, 49, 57]⟩ : ByteArray) = some true := by decide +kernel
theorem sxT3 : regletlaw02_texts.f 40 (⟨#[76, 39, 97, 39, 32, 117, 56, 34, 98, 34, 32, 117, 56, 39, 99, 39, 10]⟩ : ByteArray) [(⟨#[76, 39, 97, 39]⟩ : ByteArray), (⟨#[117, 56, 34, 98, 34]⟩ : ByteArray), (⟨#[117, 56]⟩ : ByteArray), (⟨#[39, 99, 39]⟩ : ByteArray), (⟨#[10]⟩ : ByteArray)] (⟨#[51, 52, 49, 51, 57]⟩ : ByteArray) = some true := by decide +kernel
theorem sxT4 : regletlaw02_texts.f 40 (⟨#[97, 47, 42, 42, 47, 98, 32, 47, 47, 32, 99, 10]⟩ : ByteArray) [(⟨#[97]⟩ : ByteArray), (⟨#[47, 42, 42, 47]⟩ : ByteArray), (⟨#[98]⟩ : ByteArray), (⟨#[47, 47, 32, 99]⟩ : ByteArray), (⟨#[10]⟩ : ByteArray)] (⟨#[49, 56, 49, 56, 57]⟩ : ByteArray) = some true := by decide +kernel
theorem sxT5 : regletlaw02_texts.f 40 (⟨#[37, 58, 37, 58, 37, 58, 37, 10]⟩ : ByteArray) [(⟨#[37, 58, 37, 58]⟩ : ByteArray), (⟨#[37, 58]⟩ : ByteArray), (⟨#[37]⟩ : ByteArray), (⟨#[10]⟩ : ByteArray)] (⟨#[53, 53, 53, 57]⟩ : ByteArray) = some true := by decide +kernel
theorem sxT6 : regletlaw02_texts.f 40 (⟨#[46, 46, 49, 46, 46, 46, 92, 64, 10]⟩ : ByteArray) [(⟨#[46]⟩ : ByteArray), (⟨#[46, 49, 46, 46, 46]⟩ : ByteArray), (⟨#[92]⟩ : ByteArray), (⟨#[64]⟩ : ByteArray), (⟨#[10]⟩ : ByteArray)] (⟨#[53, 50, 54, 54, 57]⟩ : ByteArray) = some true := by decide +kernel
theorem sxT7 : regletlaw02_texts.f 40 (⟨#[35, 105, 110, 99, 108, 117, 100, 101, 32, 120, 32, 60, 121, 62, 10]⟩ : ByteArray) [(⟨#[35]⟩ : ByteArray), (⟨#[105, 110, 99, 108, 117, 100, 101]⟩ : ByteArray), (⟨#[120]⟩ : ByteArray), (⟨#[60]⟩ : ByteArray), (⟨#[121]⟩ : ByteArray), (⟨#[62]⟩ : ByteArray), (⟨#[10]⟩ : ByteArray)] (⟨#[53, 49, 49, 53, 49, 53, 57]⟩ : ByteArray) = some true := by decide +kernel
theorem sxT8 : regletlaw02_texts.f 40 (⟨#[85, 34, 97, 34, 32, 85, 39, 98, 39, 10]⟩ : ByteArray) [(⟨#[85, 34, 97, 34]⟩ : ByteArray), (⟨#[85, 39, 98, 39]⟩ : ByteArray), (⟨#[10]⟩ : ByteArray)] (⟨#[52, 51, 57]⟩ : ByteArray) = some true := by decide +kernel
theorem sxR0 : regletlaw02_refused.f (⟨#[39, 97, 10]⟩ : ByteArray) 21 = some true := by decide +kernel
theorem sxR1 : regletlaw02_refused.f (⟨#[39, 39, 10]⟩ : ByteArray) 21 = some true := by decide +kernel
theorem sxR2 : regletlaw02_refused.f (⟨#[47, 42, 10]⟩ : ByteArray) 20 = some true := by decide +kernel
theorem sxR3 : regletlaw02_refused.f (⟨#[34, 92, 34, 10]⟩ : ByteArray) 21 = some true := by decide +kernel
theorem sxR4 : regletlaw02_refused.f (⟨#[97]⟩ : ByteArray) 10 = some true := by decide +kernel
theorem sxR5 : regletlaw02_refused.f (⟨#[47, 42, 47, 10]⟩ : ByteArray) 20 = some true := by decide +kernel
theorem sxF0 : regletlaw02_fuse.f (⟨#[43]⟩ : ByteArray) (⟨#[43]⟩ : ByteArray) = some true := by decide +kernel
theorem sxF1 : regletlaw02_fuse.f (⟨#[97]⟩ : ByteArray) (⟨#[49]⟩ : ByteArray) = some true := by decide +kernel
theorem sxF2 : regletlaw02_fuse.f (⟨#[49]⟩ : ByteArray) (⟨#[97]⟩ : ByteArray) = some true := by decide +kernel
theorem sxF3 : regletlaw02_fuse.f (⟨#[47]⟩ : ByteArray) (⟨#[42]⟩ : ByteArray) = some true := by decide +kernel
theorem sxF4 : regletlaw02_fuse.f (⟨#[97]⟩ : ByteArray) (⟨#[43]⟩ : ByteArray) = some false := by decide +kernel
theorem sxF5 : regletlaw02_fuse.f (⟨#[117, 56]⟩ : ByteArray) (⟨#[34, 34]⟩ : ByteArray) = some true := by decide +kernel
theorem sxF6 : regletlaw02_fuse.f (⟨#[47, 47]⟩ : ByteArray) (⟨#[97]⟩ : ByteArray) = some true := by decide +kernel
theorem sxF7 : regletlaw02_fuse.f (⟨#[47, 47]⟩ : ByteArray) (⟨#[10]⟩ : ByteArray) = some false := by decide +kernel
theorem sxO0 : scan_One.f (⟨#[117, 56, 34, 34]⟩ : ByteArray) = some (4, true) := by decide +kernel
theorem sxO1 : scan_One.f (⟨#[97, 32, 98]⟩ : ByteArray) = some (0, false) := by decide +kernel
theorem sxO2 : scan_One.f (⟨#[]⟩ : ByteArray) = some (0, false) := by decide +kernel
theorem sxE : scan_Fuses.f (⟨#[97, 32, 98]⟩ : ByteArray) (⟨#[99]⟩ : ByteArray) = some (false, 2) := by decide +kernel
theorem sxA : regletlaw02_alive.f 40 = some true := by decide +kernel
def sxL : List S26 := [⟨1, (⟨#[97]⟩ : ByteArray), 0, 1, false⟩, ⟨8, (⟨#[47, 42, 42, 47]⟩ : ByteArray), 1, 5, false⟩, ⟨1, (⟨#[98]⟩ : ByteArray), 5, 6, false⟩, ⟨9, (⟨#[10]⟩ : ByteArray), 6, 7, false⟩, ⟨1, (⟨#[99]⟩ : ByteArray), 8, 9, true⟩, ⟨9, (⟨#[10]⟩ : ByteArray), 9, 10, false⟩]
def sxU (t : S26) : Int × List UInt8 × Int × Int × Bool := (t.f0, t.f1.toList, t.f2, t.f3, t.f4)
theorem sx_ext {a b : ByteArray} (h : a.toList = b.toList) : a = b := by
  rw [toList_L, toList_L] at h
  exact ext_L h
theorem sx_inj : ∀ (a b : List S26), a.map sxU = b.map sxU → a = b
  | [], [], _ => rfl
  | [], _ :: _, h => by cases h
  | _ :: _, [], h => by cases h
  | ⟨x0, x1, x2, x3, x4⟩ :: a, ⟨y0, y1, y2, y3, y4⟩ :: b, h => by
    obtain ⟨h1, h2⟩ := List.cons.inj h
    obtain ⟨e0, h1⟩ := Prod.mk.inj h1
    obtain ⟨e1, h1⟩ := Prod.mk.inj h1
    obtain ⟨e2, h1⟩ := Prod.mk.inj h1
    obtain ⟨e3, e4⟩ := Prod.mk.inj h1
    have e1 := sx_ext e1
    have e0 : x0 = y0 := e0
    have e2 : x2 = y2 := e2
    have e3 : x3 = y3 := e3
    have e4 : x4 = y4 := e4
    subst e0 e1 e2 e3 e4
    rw [sx_inj a b h2]
theorem sxS1 : (scanR (L (⟨#[97, 47, 42, 42, 47, 98, 10, 32, 99, 10]⟩ : ByteArray))).1.map sxU = sxL.map sxU := by decide +kernel
theorem sxS2 : (scanR (L (⟨#[97, 47, 42, 42, 47, 98, 10, 32, 99, 10]⟩ : ByteArray))).2 = 0 := by decide +kernel
theorem sxS : scan_Scan.f (⟨#[97, 47, 42, 42, 47, 98, 10, 32, 99, 10]⟩ : ByteArray) = some (sxL, 0) := by
  unfold scan_Scan.f
  refine congrArg some (Prod.ext (sx_inj _ _ sxS1) sxS2)
theorem sxB : scan_Bare.f sxL = some [⟨1, (⟨#[97]⟩ : ByteArray), 0, 1, false⟩, ⟨1, (⟨#[98]⟩ : ByteArray), 5, 6, true⟩, ⟨1, (⟨#[99]⟩ : ByteArray), 8, 9, true⟩] := by rfl
set_option maxHeartbeats 8000000 in
set_option maxRecDepth 100000 in
theorem names16 (w : World) (HM : HasMax w) : Calls Try.prog 16 #[] w fun e w' => e = .returned (.bool true) ∧ Below w.heap.size w w' := by
  have hu26 := Try.underlying26
  have HB := Aside0.mk (Below.refl w.heap.size w)
  obtain ⟨y0, hy0, hz0⟩ : ∃ y : List ByteArray, y = [(⟨#[49, 46, 101, 43, 120, 46, 121]⟩ : ByteArray), (⟨#[45]⟩ : ByteArray), (⟨#[49]⟩ : ByteArray), (⟨#[10]⟩ : ByteArray)] ∧ regletlaw02_texts.f 40 (⟨#[49, 46, 101, 43, 120, 46, 121, 45, 49, 10]⟩ : ByteArray) y (⟨#[50, 53, 50, 57]⟩ : ByteArray) = some true := ⟨_, rfl, sxT0⟩
  replace hy0 := Aside0.mk hy0
  replace hz0 := Aside0.mk hz0
  obtain ⟨y1, hy1, hz1⟩ : ∃ y : List ByteArray, y = [(⟨#[35]⟩ : ByteArray), (⟨#[105, 110, 99, 108, 117, 100, 101]⟩ : ByteArray), (⟨#[60, 97, 47, 47, 98, 62]⟩ : ByteArray), (⟨#[10]⟩ : ByteArray)] ∧ regletlaw02_texts.f 40 (⟨#[35, 105, 110, 99, 108, 117, 100, 101, 32, 60, 97, 47, 47, 98, 62, 10]⟩ : ByteArray) y (⟨#[53, 49, 55, 57]⟩ : ByteArray) = some true := ⟨_, rfl, sxT1⟩
  replace hy1 := Aside0.mk hy1
  replace hz1 := Aside0.mk hz1
  obtain ⟨y2, hy2, hz2⟩ : ∃ y : List ByteArray, y = [(⟨#[120]⟩ : ByteArray), (⟨#[60]⟩ : ByteArray), (⟨#[97]⟩ : ByteArray), (⟨#[62]⟩ : ByteArray), (⟨#[121]⟩ : ByteArray), (⟨#[10]⟩ : ByteArray)] ∧ regletlaw02_texts.f 40 (⟨#[120, 32, 60, 97, 62, 32, 121, 10]⟩ : ByteArray) y (⟨#[49, 53, 49, 53, 49, 57]⟩ : ByteArray) = some true := ⟨_, rfl, sxT2⟩
  replace hy2 := Aside0.mk hy2
  replace hz2 := Aside0.mk hz2
  obtain ⟨y3, hy3, hz3⟩ : ∃ y : List ByteArray, y = [(⟨#[76, 39, 97, 39]⟩ : ByteArray), (⟨#[117, 56, 34, 98, 34]⟩ : ByteArray), (⟨#[117, 56]⟩ : ByteArray), (⟨#[39, 99, 39]⟩ : ByteArray), (⟨#[10]⟩ : ByteArray)] ∧ regletlaw02_texts.f 40 (⟨#[76, 39, 97, 39, 32, 117, 56, 34, 98, 34, 32, 117, 56, 39, 99, 39, 10]⟩ : ByteArray) y (⟨#[51, 52, 49, 51, 57]⟩ : ByteArray) = some true := ⟨_, rfl, sxT3⟩
  replace hy3 := Aside0.mk hy3
  replace hz3 := Aside0.mk hz3
  obtain ⟨y4, hy4, hz4⟩ : ∃ y : List ByteArray, y = [(⟨#[97]⟩ : ByteArray), (⟨#[47, 42, 42, 47]⟩ : ByteArray), (⟨#[98]⟩ : ByteArray), (⟨#[47, 47, 32, 99]⟩ : ByteArray), (⟨#[10]⟩ : ByteArray)] ∧ regletlaw02_texts.f 40 (⟨#[97, 47, 42, 42, 47, 98, 32, 47, 47, 32, 99, 10]⟩ : ByteArray) y (⟨#[49, 56, 49, 56, 57]⟩ : ByteArray) = some true := ⟨_, rfl, sxT4⟩
  replace hy4 := Aside0.mk hy4
  replace hz4 := Aside0.mk hz4
  obtain ⟨y5, hy5, hz5⟩ : ∃ y : List ByteArray, y = [(⟨#[37, 58, 37, 58]⟩ : ByteArray), (⟨#[37, 58]⟩ : ByteArray), (⟨#[37]⟩ : ByteArray), (⟨#[10]⟩ : ByteArray)] ∧ regletlaw02_texts.f 40 (⟨#[37, 58, 37, 58, 37, 58, 37, 10]⟩ : ByteArray) y (⟨#[53, 53, 53, 57]⟩ : ByteArray) = some true := ⟨_, rfl, sxT5⟩
  replace hy5 := Aside0.mk hy5
  replace hz5 := Aside0.mk hz5
  obtain ⟨y6, hy6, hz6⟩ : ∃ y : List ByteArray, y = [(⟨#[46]⟩ : ByteArray), (⟨#[46, 49, 46, 46, 46]⟩ : ByteArray), (⟨#[92]⟩ : ByteArray), (⟨#[64]⟩ : ByteArray), (⟨#[10]⟩ : ByteArray)] ∧ regletlaw02_texts.f 40 (⟨#[46, 46, 49, 46, 46, 46, 92, 64, 10]⟩ : ByteArray) y (⟨#[53, 50, 54, 54, 57]⟩ : ByteArray) = some true := ⟨_, rfl, sxT6⟩
  replace hy6 := Aside0.mk hy6
  replace hz6 := Aside0.mk hz6
  obtain ⟨y7, hy7, hz7⟩ : ∃ y : List ByteArray, y = [(⟨#[35]⟩ : ByteArray), (⟨#[105, 110, 99, 108, 117, 100, 101]⟩ : ByteArray), (⟨#[120]⟩ : ByteArray), (⟨#[60]⟩ : ByteArray), (⟨#[121]⟩ : ByteArray), (⟨#[62]⟩ : ByteArray), (⟨#[10]⟩ : ByteArray)] ∧ regletlaw02_texts.f 40 (⟨#[35, 105, 110, 99, 108, 117, 100, 101, 32, 120, 32, 60, 121, 62, 10]⟩ : ByteArray) y (⟨#[53, 49, 49, 53, 49, 53, 57]⟩ : ByteArray) = some true := ⟨_, rfl, sxT7⟩
  replace hy7 := Aside0.mk hy7
  replace hz7 := Aside0.mk hz7
  obtain ⟨y8, hy8, hz8⟩ : ∃ y : List ByteArray, y = [(⟨#[85, 34, 97, 34]⟩ : ByteArray), (⟨#[85, 39, 98, 39]⟩ : ByteArray), (⟨#[10]⟩ : ByteArray)] ∧ regletlaw02_texts.f 40 (⟨#[85, 34, 97, 34, 32, 85, 39, 98, 39, 10]⟩ : ByteArray) y (⟨#[52, 51, 57]⟩ : ByteArray) = some true := ⟨_, rfl, sxT8⟩
  replace hy8 := Aside0.mk hy8
  replace hz8 := Aside0.mk hz8
  obtain ⟨cs, hcs⟩ : ∃ cs : List S26, cs = sxL := ⟨_, rfl⟩
  have N1 := sxS
  have N2 := sxB
  rw [← hcs] at N1 N2
  replace N1 := Aside0.mk N1
  have hl6 : 0 < cs.length := by rw [hcs]; decide
  replace hl6 := Aside0.mk hl6
  clear hcs
  obtain ⟨bs, hN2, hl3, r0, r1, r2⟩ : ∃ bs : List S26, scan_Bare.f cs = some bs ∧ bs.length = 3 ∧ rd_T26 bs 0 = ⟨1, (⟨#[97]⟩ : ByteArray), 0, 1, false⟩ ∧ rd_T26 bs 1 = ⟨1, (⟨#[98]⟩ : ByteArray), 5, 6, true⟩ ∧ rd_T26 bs 2 = ⟨1, (⟨#[99]⟩ : ByteArray), 8, 9, true⟩ := ⟨_, N2, rfl, rfl, rfl, rfl⟩
  clear N2
  replace hN2 := Aside0.mk hN2
  replace hl3 := Aside0.mk hl3
  replace r0 := Aside0.mk r0
  replace r1 := Aside0.mk r1
  replace r2 := Aside0.mk r2
  go_enter Try.func16, Try.ntmps16
  go_wp2_with (first
    | ((with_reducible refine gate_dst (N := 19) rfl ?_); (try (refine gate_guard (by rfl) ?_; dsimp only)); refine Kd.R_lit Kd.string w.heap.size 9 ?hg (N := 19) ?hd (xs := ([(⟨#[49, 46, 101, 43, 120, 46, 121]⟩ : ByteArray), (⟨#[45]⟩ : ByteArray), (⟨#[49]⟩ : ByteArray), (⟨#[10]⟩ : ByteArray)] : List ByteArray)) (inner := [.string (⟨#[49, 46, 101, 43, 120, 46, 121]⟩ : ByteArray), .string (⟨#[45]⟩ : ByteArray), .string (⟨#[49]⟩ : ByteArray), .string (⟨#[10]⟩ : ByteArray)]) (ok := fun _ => True) (okp := fun _ => True) ?hr ?hp (fun _ hk => hk) trivial HB.out (below_size HB.out) (by simp) ?_; (case hd => rfl); (case hg => rfl); (case hr => first | (go_simp; done) | (go_simp; rfl)); (case hp => exact (Reps.one (show Kd.M Kd.string _ _ _ (⟨#[49, 46, 101, 43, 120, 46, 121]⟩ : ByteArray) [.string (⟨#[49, 46, 101, 43, 120, 46, 121]⟩ : ByteArray)] from rfl) (Reps.one (show Kd.M Kd.string _ _ _ (⟨#[45]⟩ : ByteArray) [.string (⟨#[45]⟩ : ByteArray)] from rfl) (Reps.one (show Kd.M Kd.string _ _ _ (⟨#[49]⟩ : ByteArray) [.string (⟨#[49]⟩ : ByteArray)] from rfl) (Reps.one (show Kd.M Kd.string _ _ _ (⟨#[10]⟩ : ByteArray) [.string (⟨#[10]⟩ : ByteArray)] from rfl) (Reps.none _ _)))))); intro v_ w_ ho_ hb_ hg_ hnew_; clear hg_ hnew_; (first | rw [← hy0.out] at ho_ | (simp only [Int.reduceToNat] at ho_; rw [← hy0.out] at ho_)); obtain ⟨Ao0, co0, eo0⟩ := Kd.R_slice ho_; subst eo0; have HO0 := Aside0.mk ho_; clear ho_; clear HB; have HB := Aside0.mk hb_; clear hb_)
    | ((with_reducible refine gate_dst (N := 23) rfl ?_); (try (refine gate_guard (by rfl) ?_; dsimp only)); refine Kd.R_lit Kd.string w.heap.size 9 ?hg (N := 23) ?hd (xs := ([(⟨#[35]⟩ : ByteArray), (⟨#[105, 110, 99, 108, 117, 100, 101]⟩ : ByteArray), (⟨#[60, 97, 47, 47, 98, 62]⟩ : ByteArray), (⟨#[10]⟩ : ByteArray)] : List ByteArray)) (inner := [.string (⟨#[35]⟩ : ByteArray), .string (⟨#[105, 110, 99, 108, 117, 100, 101]⟩ : ByteArray), .string (⟨#[60, 97, 47, 47, 98, 62]⟩ : ByteArray), .string (⟨#[10]⟩ : ByteArray)]) (ok := fun _ => True) (okp := fun _ => True) ?hr ?hp (fun _ hk => hk) trivial HB.out (below_size HB.out) (by simp) ?_; (case hd => rfl); (case hg => rfl); (case hr => first | (go_simp; done) | (go_simp; rfl)); (case hp => exact (Reps.one (show Kd.M Kd.string _ _ _ (⟨#[35]⟩ : ByteArray) [.string (⟨#[35]⟩ : ByteArray)] from rfl) (Reps.one (show Kd.M Kd.string _ _ _ (⟨#[105, 110, 99, 108, 117, 100, 101]⟩ : ByteArray) [.string (⟨#[105, 110, 99, 108, 117, 100, 101]⟩ : ByteArray)] from rfl) (Reps.one (show Kd.M Kd.string _ _ _ (⟨#[60, 97, 47, 47, 98, 62]⟩ : ByteArray) [.string (⟨#[60, 97, 47, 47, 98, 62]⟩ : ByteArray)] from rfl) (Reps.one (show Kd.M Kd.string _ _ _ (⟨#[10]⟩ : ByteArray) [.string (⟨#[10]⟩ : ByteArray)] from rfl) (Reps.none _ _)))))); intro v_ w_ ho_ hb_ hg_ hnew_; clear hg_ hnew_; (first | rw [← hy1.out] at ho_ | (simp only [Int.reduceToNat] at ho_; rw [← hy1.out] at ho_)); obtain ⟨Ao1, co1, eo1⟩ := Kd.R_slice ho_; subst eo1; have HO1 := Aside0.mk ho_; clear ho_; clear HB; have HB := Aside0.mk hb_; clear hb_)
    | ((with_reducible refine gate_dst (N := 27) rfl ?_); (try (refine gate_guard (by rfl) ?_; dsimp only)); refine Kd.R_lit Kd.string w.heap.size 9 ?hg (N := 27) ?hd (xs := ([(⟨#[120]⟩ : ByteArray), (⟨#[60]⟩ : ByteArray), (⟨#[97]⟩ : ByteArray), (⟨#[62]⟩ : ByteArray), (⟨#[121]⟩ : ByteArray), (⟨#[10]⟩ : ByteArray)] : List ByteArray)) (inner := [.string (⟨#[120]⟩ : ByteArray), .string (⟨#[60]⟩ : ByteArray), .string (⟨#[97]⟩ : ByteArray), .string (⟨#[62]⟩ : ByteArray), .string (⟨#[121]⟩ : ByteArray), .string (⟨#[10]⟩ : ByteArray)]) (ok := fun _ => True) (okp := fun _ => True) ?hr ?hp (fun _ hk => hk) trivial HB.out (below_size HB.out) (by simp) ?_; (case hd => rfl); (case hg => rfl); (case hr => first | (go_simp; done) | (go_simp; rfl)); (case hp => exact (Reps.one (show Kd.M Kd.string _ _ _ (⟨#[120]⟩ : ByteArray) [.string (⟨#[120]⟩ : ByteArray)] from rfl) (Reps.one (show Kd.M Kd.string _ _ _ (⟨#[60]⟩ : ByteArray) [.string (⟨#[60]⟩ : ByteArray)] from rfl) (Reps.one (show Kd.M Kd.string _ _ _ (⟨#[97]⟩ : ByteArray) [.string (⟨#[97]⟩ : ByteArray)] from rfl) (Reps.one (show Kd.M Kd.string _ _ _ (⟨#[62]⟩ : ByteArray) [.string (⟨#[62]⟩ : ByteArray)] from rfl) (Reps.one (show Kd.M Kd.string _ _ _ (⟨#[121]⟩ : ByteArray) [.string (⟨#[121]⟩ : ByteArray)] from rfl) (Reps.one (show Kd.M Kd.string _ _ _ (⟨#[10]⟩ : ByteArray) [.string (⟨#[10]⟩ : ByteArray)] from rfl) (Reps.none _ _)))))))); intro v_ w_ ho_ hb_ hg_ hnew_; clear hg_ hnew_; (first | rw [← hy2.out] at ho_ | (simp only [Int.reduceToNat] at ho_; rw [← hy2.out] at ho_)); obtain ⟨Ao2, co2, eo2⟩ := Kd.R_slice ho_; subst eo2; have HO2 := Aside0.mk ho_; clear ho_; clear HB; have HB := Aside0.mk hb_; clear hb_)
    | ((with_reducible refine gate_dst (N := 30) rfl ?_); (try (refine gate_guard (by rfl) ?_; dsimp only)); refine Kd.R_lit Kd.string w.heap.size 9 ?hg (N := 30) ?hd (xs := ([(⟨#[76, 39, 97, 39]⟩ : ByteArray), (⟨#[117, 56, 34, 98, 34]⟩ : ByteArray), (⟨#[117, 56]⟩ : ByteArray), (⟨#[39, 99, 39]⟩ : ByteArray), (⟨#[10]⟩ : ByteArray)] : List ByteArray)) (inner := [.string (⟨#[76, 39, 97, 39]⟩ : ByteArray), .string (⟨#[117, 56, 34, 98, 34]⟩ : ByteArray), .string (⟨#[117, 56]⟩ : ByteArray), .string (⟨#[39, 99, 39]⟩ : ByteArray), .string (⟨#[10]⟩ : ByteArray)]) (ok := fun _ => True) (okp := fun _ => True) ?hr ?hp (fun _ hk => hk) trivial HB.out (below_size HB.out) (by simp) ?_; (case hd => rfl); (case hg => rfl); (case hr => first | (go_simp; done) | (go_simp; rfl)); (case hp => exact (Reps.one (show Kd.M Kd.string _ _ _ (⟨#[76, 39, 97, 39]⟩ : ByteArray) [.string (⟨#[76, 39, 97, 39]⟩ : ByteArray)] from rfl) (Reps.one (show Kd.M Kd.string _ _ _ (⟨#[117, 56, 34, 98, 34]⟩ : ByteArray) [.string (⟨#[117, 56, 34, 98, 34]⟩ : ByteArray)] from rfl) (Reps.one (show Kd.M Kd.string _ _ _ (⟨#[117, 56]⟩ : ByteArray) [.string (⟨#[117, 56]⟩ : ByteArray)] from rfl) (Reps.one (show Kd.M Kd.string _ _ _ (⟨#[39, 99, 39]⟩ : ByteArray) [.string (⟨#[39, 99, 39]⟩ : ByteArray)] from rfl) (Reps.one (show Kd.M Kd.string _ _ _ (⟨#[10]⟩ : ByteArray) [.string (⟨#[10]⟩ : ByteArray)] from rfl) (Reps.none _ _))))))); intro v_ w_ ho_ hb_ hg_ hnew_; clear hg_ hnew_; (first | rw [← hy3.out] at ho_ | (simp only [Int.reduceToNat] at ho_; rw [← hy3.out] at ho_)); obtain ⟨Ao3, co3, eo3⟩ := Kd.R_slice ho_; subst eo3; have HO3 := Aside0.mk ho_; clear ho_; clear HB; have HB := Aside0.mk hb_; clear hb_)
    | ((with_reducible refine gate_dst (N := 33) rfl ?_); (try (refine gate_guard (by rfl) ?_; dsimp only)); refine Kd.R_lit Kd.string w.heap.size 9 ?hg (N := 33) ?hd (xs := ([(⟨#[97]⟩ : ByteArray), (⟨#[47, 42, 42, 47]⟩ : ByteArray), (⟨#[98]⟩ : ByteArray), (⟨#[47, 47, 32, 99]⟩ : ByteArray), (⟨#[10]⟩ : ByteArray)] : List ByteArray)) (inner := [.string (⟨#[97]⟩ : ByteArray), .string (⟨#[47, 42, 42, 47]⟩ : ByteArray), .string (⟨#[98]⟩ : ByteArray), .string (⟨#[47, 47, 32, 99]⟩ : ByteArray), .string (⟨#[10]⟩ : ByteArray)]) (ok := fun _ => True) (okp := fun _ => True) ?hr ?hp (fun _ hk => hk) trivial HB.out (below_size HB.out) (by simp) ?_; (case hd => rfl); (case hg => rfl); (case hr => first | (go_simp; done) | (go_simp; rfl)); (case hp => exact (Reps.one (show Kd.M Kd.string _ _ _ (⟨#[97]⟩ : ByteArray) [.string (⟨#[97]⟩ : ByteArray)] from rfl) (Reps.one (show Kd.M Kd.string _ _ _ (⟨#[47, 42, 42, 47]⟩ : ByteArray) [.string (⟨#[47, 42, 42, 47]⟩ : ByteArray)] from rfl) (Reps.one (show Kd.M Kd.string _ _ _ (⟨#[98]⟩ : ByteArray) [.string (⟨#[98]⟩ : ByteArray)] from rfl) (Reps.one (show Kd.M Kd.string _ _ _ (⟨#[47, 47, 32, 99]⟩ : ByteArray) [.string (⟨#[47, 47, 32, 99]⟩ : ByteArray)] from rfl) (Reps.one (show Kd.M Kd.string _ _ _ (⟨#[10]⟩ : ByteArray) [.string (⟨#[10]⟩ : ByteArray)] from rfl) (Reps.none _ _))))))); intro v_ w_ ho_ hb_ hg_ hnew_; clear hg_ hnew_; (first | rw [← hy4.out] at ho_ | (simp only [Int.reduceToNat] at ho_; rw [← hy4.out] at ho_)); obtain ⟨Ao4, co4, eo4⟩ := Kd.R_slice ho_; subst eo4; have HO4 := Aside0.mk ho_; clear ho_; clear HB; have HB := Aside0.mk hb_; clear hb_)
    | ((with_reducible refine gate_dst (N := 37) rfl ?_); (try (refine gate_guard (by rfl) ?_; dsimp only)); refine Kd.R_lit Kd.string w.heap.size 9 ?hg (N := 37) ?hd (xs := ([(⟨#[37, 58, 37, 58]⟩ : ByteArray), (⟨#[37, 58]⟩ : ByteArray), (⟨#[37]⟩ : ByteArray), (⟨#[10]⟩ : ByteArray)] : List ByteArray)) (inner := [.string (⟨#[37, 58, 37, 58]⟩ : ByteArray), .string (⟨#[37, 58]⟩ : ByteArray), .string (⟨#[37]⟩ : ByteArray), .string (⟨#[10]⟩ : ByteArray)]) (ok := fun _ => True) (okp := fun _ => True) ?hr ?hp (fun _ hk => hk) trivial HB.out (below_size HB.out) (by simp) ?_; (case hd => rfl); (case hg => rfl); (case hr => first | (go_simp; done) | (go_simp; rfl)); (case hp => exact (Reps.one (show Kd.M Kd.string _ _ _ (⟨#[37, 58, 37, 58]⟩ : ByteArray) [.string (⟨#[37, 58, 37, 58]⟩ : ByteArray)] from rfl) (Reps.one (show Kd.M Kd.string _ _ _ (⟨#[37, 58]⟩ : ByteArray) [.string (⟨#[37, 58]⟩ : ByteArray)] from rfl) (Reps.one (show Kd.M Kd.string _ _ _ (⟨#[37]⟩ : ByteArray) [.string (⟨#[37]⟩ : ByteArray)] from rfl) (Reps.one (show Kd.M Kd.string _ _ _ (⟨#[10]⟩ : ByteArray) [.string (⟨#[10]⟩ : ByteArray)] from rfl) (Reps.none _ _)))))); intro v_ w_ ho_ hb_ hg_ hnew_; clear hg_ hnew_; (first | rw [← hy5.out] at ho_ | (simp only [Int.reduceToNat] at ho_; rw [← hy5.out] at ho_)); obtain ⟨Ao5, co5, eo5⟩ := Kd.R_slice ho_; subst eo5; have HO5 := Aside0.mk ho_; clear ho_; clear HB; have HB := Aside0.mk hb_; clear hb_)
    | ((with_reducible refine gate_dst (N := 41) rfl ?_); (try (refine gate_guard (by rfl) ?_; dsimp only)); refine Kd.R_lit Kd.string w.heap.size 9 ?hg (N := 41) ?hd (xs := ([(⟨#[46]⟩ : ByteArray), (⟨#[46, 49, 46, 46, 46]⟩ : ByteArray), (⟨#[92]⟩ : ByteArray), (⟨#[64]⟩ : ByteArray), (⟨#[10]⟩ : ByteArray)] : List ByteArray)) (inner := [.string (⟨#[46]⟩ : ByteArray), .string (⟨#[46, 49, 46, 46, 46]⟩ : ByteArray), .string (⟨#[92]⟩ : ByteArray), .string (⟨#[64]⟩ : ByteArray), .string (⟨#[10]⟩ : ByteArray)]) (ok := fun _ => True) (okp := fun _ => True) ?hr ?hp (fun _ hk => hk) trivial HB.out (below_size HB.out) (by simp) ?_; (case hd => rfl); (case hg => rfl); (case hr => first | (go_simp; done) | (go_simp; rfl)); (case hp => exact (Reps.one (show Kd.M Kd.string _ _ _ (⟨#[46]⟩ : ByteArray) [.string (⟨#[46]⟩ : ByteArray)] from rfl) (Reps.one (show Kd.M Kd.string _ _ _ (⟨#[46, 49, 46, 46, 46]⟩ : ByteArray) [.string (⟨#[46, 49, 46, 46, 46]⟩ : ByteArray)] from rfl) (Reps.one (show Kd.M Kd.string _ _ _ (⟨#[92]⟩ : ByteArray) [.string (⟨#[92]⟩ : ByteArray)] from rfl) (Reps.one (show Kd.M Kd.string _ _ _ (⟨#[64]⟩ : ByteArray) [.string (⟨#[64]⟩ : ByteArray)] from rfl) (Reps.one (show Kd.M Kd.string _ _ _ (⟨#[10]⟩ : ByteArray) [.string (⟨#[10]⟩ : ByteArray)] from rfl) (Reps.none _ _))))))); intro v_ w_ ho_ hb_ hg_ hnew_; clear hg_ hnew_; (first | rw [← hy6.out] at ho_ | (simp only [Int.reduceToNat] at ho_; rw [← hy6.out] at ho_)); obtain ⟨Ao6, co6, eo6⟩ := Kd.R_slice ho_; subst eo6; have HO6 := Aside0.mk ho_; clear ho_; clear HB; have HB := Aside0.mk hb_; clear hb_)
    | ((with_reducible refine gate_dst (N := 78) rfl ?_); (try (refine gate_guard (by rfl) ?_; dsimp only)); refine Kd.R_lit Kd.string w.heap.size 9 ?hg (N := 78) ?hd (xs := ([(⟨#[35]⟩ : ByteArray), (⟨#[105, 110, 99, 108, 117, 100, 101]⟩ : ByteArray), (⟨#[120]⟩ : ByteArray), (⟨#[60]⟩ : ByteArray), (⟨#[121]⟩ : ByteArray), (⟨#[62]⟩ : ByteArray), (⟨#[10]⟩ : ByteArray)] : List ByteArray)) (inner := [.string (⟨#[35]⟩ : ByteArray), .string (⟨#[105, 110, 99, 108, 117, 100, 101]⟩ : ByteArray), .string (⟨#[120]⟩ : ByteArray), .string (⟨#[60]⟩ : ByteArray), .string (⟨#[121]⟩ : ByteArray), .string (⟨#[62]⟩ : ByteArray), .string (⟨#[10]⟩ : ByteArray)]) (ok := fun _ => True) (okp := fun _ => True) ?hr ?hp (fun _ hk => hk) trivial HB.out (below_size HB.out) (by simp) ?_; (case hd => rfl); (case hg => rfl); (case hr => first | (go_simp; done) | (go_simp; rfl)); (case hp => exact (Reps.one (show Kd.M Kd.string _ _ _ (⟨#[35]⟩ : ByteArray) [.string (⟨#[35]⟩ : ByteArray)] from rfl) (Reps.one (show Kd.M Kd.string _ _ _ (⟨#[105, 110, 99, 108, 117, 100, 101]⟩ : ByteArray) [.string (⟨#[105, 110, 99, 108, 117, 100, 101]⟩ : ByteArray)] from rfl) (Reps.one (show Kd.M Kd.string _ _ _ (⟨#[120]⟩ : ByteArray) [.string (⟨#[120]⟩ : ByteArray)] from rfl) (Reps.one (show Kd.M Kd.string _ _ _ (⟨#[60]⟩ : ByteArray) [.string (⟨#[60]⟩ : ByteArray)] from rfl) (Reps.one (show Kd.M Kd.string _ _ _ (⟨#[121]⟩ : ByteArray) [.string (⟨#[121]⟩ : ByteArray)] from rfl) (Reps.one (show Kd.M Kd.string _ _ _ (⟨#[62]⟩ : ByteArray) [.string (⟨#[62]⟩ : ByteArray)] from rfl) (Reps.one (show Kd.M Kd.string _ _ _ (⟨#[10]⟩ : ByteArray) [.string (⟨#[10]⟩ : ByteArray)] from rfl) (Reps.none _ _))))))))); intro v_ w_ ho_ hb_ hg_ hnew_; clear hg_ hnew_; (first | rw [← hy7.out] at ho_ | (simp only [Int.reduceToNat] at ho_; rw [← hy7.out] at ho_)); obtain ⟨Ao7, co7, eo7⟩ := Kd.R_slice ho_; subst eo7; have HO7 := Aside0.mk ho_; clear ho_; clear HB; have HB := Aside0.mk hb_; clear hb_)
    | ((with_reducible refine gate_dst (N := 82) rfl ?_); (try (refine gate_guard (by rfl) ?_; dsimp only)); refine Kd.R_lit Kd.string w.heap.size 9 ?hg (N := 82) ?hd (xs := ([(⟨#[85, 34, 97, 34]⟩ : ByteArray), (⟨#[85, 39, 98, 39]⟩ : ByteArray), (⟨#[10]⟩ : ByteArray)] : List ByteArray)) (inner := [.string (⟨#[85, 34, 97, 34]⟩ : ByteArray), .string (⟨#[85, 39, 98, 39]⟩ : ByteArray), .string (⟨#[10]⟩ : ByteArray)]) (ok := fun _ => True) (okp := fun _ => True) ?hr ?hp (fun _ hk => hk) trivial HB.out (below_size HB.out) (by simp) ?_; (case hd => rfl); (case hg => rfl); (case hr => first | (go_simp; done) | (go_simp; rfl)); (case hp => exact (Reps.one (show Kd.M Kd.string _ _ _ (⟨#[85, 34, 97, 34]⟩ : ByteArray) [.string (⟨#[85, 34, 97, 34]⟩ : ByteArray)] from rfl) (Reps.one (show Kd.M Kd.string _ _ _ (⟨#[85, 39, 98, 39]⟩ : ByteArray) [.string (⟨#[85, 39, 98, 39]⟩ : ByteArray)] from rfl) (Reps.one (show Kd.M Kd.string _ _ _ (⟨#[10]⟩ : ByteArray) [.string (⟨#[10]⟩ : ByteArray)] from rfl) (Reps.none _ _))))); intro v_ w_ ho_ hb_ hg_ hnew_; clear hg_ hnew_; (first | rw [← hy8.out] at ho_ | (simp only [Int.reduceToNat] at ho_; rw [← hy8.out] at ho_)); obtain ⟨Ao8, co8, eo8⟩ := Kd.R_slice ho_; subst eo8; have HO8 := Aside0.mk ho_; clear ho_; clear HB; have HB := Aside0.mk hb_; clear hb_)
    | (go_at_call 58; first
      | (with_reducible refine (regletlaw02_texts.calls 40 (⟨#[49, 46, 101, 43, 120, 46, 121, 45, 49, 10]⟩ : ByteArray) _ _ y0 (⟨#[50, 53, 50, 57]⟩ : ByteArray) true _ (Kd.R_reads' HO0.out).2.2 (Kd.R_reads' HO0.out).2.1 hz0.out).mono ?_; rintro e_ w_ ⟨rfl, hb_⟩; clear HO0 hz0 hy0; have n1_ := Aside0.mk (below_step HB.out hb_); clear HB hb_; have HB := n1_; clear n1_)
      | (with_reducible refine (regletlaw02_texts.calls 40 (⟨#[35, 105, 110, 99, 108, 117, 100, 101, 32, 60, 97, 47, 47, 98, 62, 10]⟩ : ByteArray) _ _ y1 (⟨#[53, 49, 55, 57]⟩ : ByteArray) true _ (Kd.R_reads' HO1.out).2.2 (Kd.R_reads' HO1.out).2.1 hz1.out).mono ?_; rintro e_ w_ ⟨rfl, hb_⟩; clear HO1 hz1 hy1; have n1_ := Aside0.mk (below_step HB.out hb_); clear HB hb_; have HB := n1_; clear n1_)
      | (with_reducible refine (regletlaw02_texts.calls 40 (⟨#[120, 32, 60, 97, 62, 32, 121, 10]⟩ : ByteArray) _ _ y2 (⟨#[49, 53, 49, 53, 49, 57]⟩ : ByteArray) true _ (Kd.R_reads' HO2.out).2.2 (Kd.R_reads' HO2.out).2.1 hz2.out).mono ?_; rintro e_ w_ ⟨rfl, hb_⟩; clear HO2 hz2 hy2; have n1_ := Aside0.mk (below_step HB.out hb_); clear HB hb_; have HB := n1_; clear n1_)
      | (with_reducible refine (regletlaw02_texts.calls 40 (⟨#[76, 39, 97, 39, 32, 117, 56, 34, 98, 34, 32, 117, 56, 39, 99, 39, 10]⟩ : ByteArray) _ _ y3 (⟨#[51, 52, 49, 51, 57]⟩ : ByteArray) true _ (Kd.R_reads' HO3.out).2.2 (Kd.R_reads' HO3.out).2.1 hz3.out).mono ?_; rintro e_ w_ ⟨rfl, hb_⟩; clear HO3 hz3 hy3; have n1_ := Aside0.mk (below_step HB.out hb_); clear HB hb_; have HB := n1_; clear n1_)
      | (with_reducible refine (regletlaw02_texts.calls 40 (⟨#[97, 47, 42, 42, 47, 98, 32, 47, 47, 32, 99, 10]⟩ : ByteArray) _ _ y4 (⟨#[49, 56, 49, 56, 57]⟩ : ByteArray) true _ (Kd.R_reads' HO4.out).2.2 (Kd.R_reads' HO4.out).2.1 hz4.out).mono ?_; rintro e_ w_ ⟨rfl, hb_⟩; clear HO4 hz4 hy4; have n1_ := Aside0.mk (below_step HB.out hb_); clear HB hb_; have HB := n1_; clear n1_)
      | (with_reducible refine (regletlaw02_texts.calls 40 (⟨#[37, 58, 37, 58, 37, 58, 37, 10]⟩ : ByteArray) _ _ y5 (⟨#[53, 53, 53, 57]⟩ : ByteArray) true _ (Kd.R_reads' HO5.out).2.2 (Kd.R_reads' HO5.out).2.1 hz5.out).mono ?_; rintro e_ w_ ⟨rfl, hb_⟩; clear HO5 hz5 hy5; have n1_ := Aside0.mk (below_step HB.out hb_); clear HB hb_; have HB := n1_; clear n1_)
      | (with_reducible refine (regletlaw02_texts.calls 40 (⟨#[46, 46, 49, 46, 46, 46, 92, 64, 10]⟩ : ByteArray) _ _ y6 (⟨#[53, 50, 54, 54, 57]⟩ : ByteArray) true _ (Kd.R_reads' HO6.out).2.2 (Kd.R_reads' HO6.out).2.1 hz6.out).mono ?_; rintro e_ w_ ⟨rfl, hb_⟩; clear HO6 hz6 hy6; have n1_ := Aside0.mk (below_step HB.out hb_); clear HB hb_; have HB := n1_; clear n1_)
      | (with_reducible refine (regletlaw02_texts.calls 40 (⟨#[35, 105, 110, 99, 108, 117, 100, 101, 32, 120, 32, 60, 121, 62, 10]⟩ : ByteArray) _ _ y7 (⟨#[53, 49, 49, 53, 49, 53, 57]⟩ : ByteArray) true _ (Kd.R_reads' HO7.out).2.2 (Kd.R_reads' HO7.out).2.1 hz7.out).mono ?_; rintro e_ w_ ⟨rfl, hb_⟩; clear HO7 hz7 hy7; have n1_ := Aside0.mk (below_step HB.out hb_); clear HB hb_; have HB := n1_; clear n1_)
      | (with_reducible refine (regletlaw02_texts.calls 40 (⟨#[85, 34, 97, 34, 32, 85, 39, 98, 39, 10]⟩ : ByteArray) _ _ y8 (⟨#[52, 51, 57]⟩ : ByteArray) true _ (Kd.R_reads' HO8.out).2.2 (Kd.R_reads' HO8.out).2.1 hz8.out).mono ?_; rintro e_ w_ ⟨rfl, hb_⟩; clear HO8 hz8 hy8; have n1_ := Aside0.mk (below_step HB.out hb_); clear HB hb_; have HB := n1_; clear n1_))
    | (go_at_call 55; with_reducible refine (regletlaw02_alive.calls 40 true _ sxA).mono ?_; rintro e_ w_ ⟨rfl, hb_⟩; have n1_ := Aside0.mk (below_step HB.out hb_); clear HB hb_; have HB := n1_; clear n1_)
    | (go_at_call 59; first
      | (with_reducible refine (regletlaw02_refused.calls (⟨#[39, 97, 10]⟩ : ByteArray) 21 true _ sxR0).mono ?_; rintro e_ w_ ⟨rfl, hb_⟩; have n1_ := Aside0.mk (below_step HB.out hb_); clear HB hb_; have HB := n1_; clear n1_)
      | (with_reducible refine (regletlaw02_refused.calls (⟨#[39, 39, 10]⟩ : ByteArray) 21 true _ sxR1).mono ?_; rintro e_ w_ ⟨rfl, hb_⟩; have n1_ := Aside0.mk (below_step HB.out hb_); clear HB hb_; have HB := n1_; clear n1_)
      | (with_reducible refine (regletlaw02_refused.calls (⟨#[47, 42, 10]⟩ : ByteArray) 20 true _ sxR2).mono ?_; rintro e_ w_ ⟨rfl, hb_⟩; have n1_ := Aside0.mk (below_step HB.out hb_); clear HB hb_; have HB := n1_; clear n1_)
      | (with_reducible refine (regletlaw02_refused.calls (⟨#[34, 92, 34, 10]⟩ : ByteArray) 21 true _ sxR3).mono ?_; rintro e_ w_ ⟨rfl, hb_⟩; have n1_ := Aside0.mk (below_step HB.out hb_); clear HB hb_; have HB := n1_; clear n1_)
      | (with_reducible refine (regletlaw02_refused.calls (⟨#[97]⟩ : ByteArray) 10 true _ sxR4).mono ?_; rintro e_ w_ ⟨rfl, hb_⟩; have n1_ := Aside0.mk (below_step HB.out hb_); clear HB hb_; have HB := n1_; clear n1_)
      | (with_reducible refine (regletlaw02_refused.calls (⟨#[47, 42, 47, 10]⟩ : ByteArray) 20 true _ sxR5).mono ?_; rintro e_ w_ ⟨rfl, hb_⟩; have n1_ := Aside0.mk (below_step HB.out hb_); clear HB hb_; have HB := n1_; clear n1_))
    | (go_at_call 60; first
      | (with_reducible refine (regletlaw02_fuse.calls (⟨#[43]⟩ : ByteArray) (⟨#[43]⟩ : ByteArray) true _ sxF0).mono ?_; rintro e_ w_ ⟨rfl, hb_⟩; have n1_ := Aside0.mk (below_step HB.out hb_); clear HB hb_; have HB := n1_; clear n1_)
      | (with_reducible refine (regletlaw02_fuse.calls (⟨#[97]⟩ : ByteArray) (⟨#[49]⟩ : ByteArray) true _ sxF1).mono ?_; rintro e_ w_ ⟨rfl, hb_⟩; have n1_ := Aside0.mk (below_step HB.out hb_); clear HB hb_; have HB := n1_; clear n1_)
      | (with_reducible refine (regletlaw02_fuse.calls (⟨#[49]⟩ : ByteArray) (⟨#[97]⟩ : ByteArray) true _ sxF2).mono ?_; rintro e_ w_ ⟨rfl, hb_⟩; have n1_ := Aside0.mk (below_step HB.out hb_); clear HB hb_; have HB := n1_; clear n1_)
      | (with_reducible refine (regletlaw02_fuse.calls (⟨#[47]⟩ : ByteArray) (⟨#[42]⟩ : ByteArray) true _ sxF3).mono ?_; rintro e_ w_ ⟨rfl, hb_⟩; have n1_ := Aside0.mk (below_step HB.out hb_); clear HB hb_; have HB := n1_; clear n1_)
      | (with_reducible refine (regletlaw02_fuse.calls (⟨#[97]⟩ : ByteArray) (⟨#[43]⟩ : ByteArray) false _ sxF4).mono ?_; rintro e_ w_ ⟨rfl, hb_⟩; have n1_ := Aside0.mk (below_step HB.out hb_); clear HB hb_; have HB := n1_; clear n1_)
      | (with_reducible refine (regletlaw02_fuse.calls (⟨#[117, 56]⟩ : ByteArray) (⟨#[34, 34]⟩ : ByteArray) true _ sxF5).mono ?_; rintro e_ w_ ⟨rfl, hb_⟩; have n1_ := Aside0.mk (below_step HB.out hb_); clear HB hb_; have HB := n1_; clear n1_)
      | (with_reducible refine (regletlaw02_fuse.calls (⟨#[47, 47]⟩ : ByteArray) (⟨#[97]⟩ : ByteArray) true _ sxF6).mono ?_; rintro e_ w_ ⟨rfl, hb_⟩; have n1_ := Aside0.mk (below_step HB.out hb_); clear HB hb_; have HB := n1_; clear n1_)
      | (with_reducible refine (regletlaw02_fuse.calls (⟨#[47, 47]⟩ : ByteArray) (⟨#[10]⟩ : ByteArray) false _ sxF7).mono ?_; rintro e_ w_ ⟨rfl, hb_⟩; have n1_ := Aside0.mk (below_step HB.out hb_); clear HB hb_; have HB := n1_; clear n1_))
    | (go_at_call 51; first
      | (with_reducible refine (scan_One.calls (⟨#[117, 56, 34, 34]⟩ : ByteArray) 4 true _ sxO0).mono ?_; rintro e_ w_ ⟨rfl, hb_⟩; have n1_ := Aside0.mk (below_step HB.out hb_); clear HB hb_; have HB := n1_; clear n1_)
      | (with_reducible refine (scan_One.calls (⟨#[97, 32, 98]⟩ : ByteArray) 0 false _ sxO1).mono ?_; rintro e_ w_ ⟨rfl, hb_⟩; have n1_ := Aside0.mk (below_step HB.out hb_); clear HB hb_; have HB := n1_; clear n1_)
      | (with_reducible refine (scan_One.calls (⟨#[]⟩ : ByteArray) 0 false _ sxO2).mono ?_; rintro e_ w_ ⟨rfl, hb_⟩; have n1_ := Aside0.mk (below_step HB.out hb_); clear HB hb_; have HB := n1_; clear n1_))
    | (go_at_call 53; with_reducible refine (scan_Fuses.calls (⟨#[97, 32, 98]⟩ : ByteArray) (⟨#[99]⟩ : ByteArray) false 2 _ sxE).mono ?_; rintro e_ w_ ⟨rfl, hb_⟩; have n1_ := Aside0.mk (below_step HB.out hb_); clear HB hb_; have HB := n1_; clear n1_)
    | (go_at_call 56; refine (scan_Scan.calls (⟨#[97, 47, 42, 42, 47, 98, 10, 32, 99, 10]⟩ : ByteArray) cs 0 _ N1.out).mono ?_; rintro e_ w1 ⟨vl, rfl, hRl, hb_⟩; obtain ⟨gl, cl, rfl, _, _, hcl, _⟩ := Kd.R_form hRl hl6.out; have HRl := Aside0.mk hRl; clear hRl; have n1_ := Aside0.mk (below_step HB.out hb_); clear HB hb_; have HB := n1_; clear n1_)
    | (go_at_call 24; refine (scan_Bare.calls _ cl cs bs _ (Kd.R_reads' HRl.out).2.2 (Kd.R_reads' HRl.out).2.1 hN2.out).mono ?_
       rintro e_ w2 ⟨vb, rfl, hRb, hb_⟩
       obtain ⟨gb, cb, rfl, _, _, hcb, _⟩ := Kd.R_form hRb (by rw [hl3.out]; decide)
       have hCb := Aside0.mk (Kd.R_reads' hRb).2.2
       clear hRb
       have n1_ := Aside0.mk (below_step HB.out hb_); clear HB hb_; have HB := n1_; clear n1_
       obtain ⟨ad, e1, a0, a1, a2, a3, a4⟩ := at_T26 hCb.out 0 (by decide) (by rw [hl3.out]; decide)
       obtain ⟨ad', e2, b0, b1, b2, b3, b4⟩ := at_T26 hCb.out 1 (by decide) (by rw [hl3.out]; decide)
       obtain ⟨ad'', e3, d0, d1, d2, d3, d4⟩ := at_T26 hCb.out 2 (by decide) (by rw [hl3.out]; decide)
       cases e1
       cases e2
       cases e3
       rw [r0.out] at a4
       rw [r1.out] at b4
       rw [r2.out] at d1 d2 d4
       simp only [Int.reduceToNat, Nat.reduceMul, add_plain, Nat.reduceAdd, Nat.zero_add] at a4 b4 d1 d2 d4
       clear a0 a1 a2 a3 b0 b1 b2 b3 d0 d3
       rw [hl3.out]))
  go_ret
  exact ⟨rfl, HB.out⟩
end Go.Proofs.Ytonfmnohmigjpaa.P
