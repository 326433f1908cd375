/- The contract of scan.Scan: a text's tokens, or what it is refused for. -/
import Derived.Test.YtonfmnohmigjpaaG86
import Derived.Test.YtonfmnohmigjpaaGC
import Derived.Test.YtonfmnohmigjpaaGE
import Derived.Deep.RegionWith
import Derived.BigRegion
import Derived.BigRegionIn
import Derived.Test.YtonfmnohmigjpaaRg
namespace Go.Proofs.Ytonfmnohmigjpaa.P
open Go.RowKit Go.Shelf Go.Proofs.YtonfmnohmigjpaaW.PrintWords Go.Proofs.YtonfmnohmigjpaaW.PrintLast Go.Proofs.YtonfmnohmigjpaaW.PrintMore
attribute [local go_sem] Oper.semAt_some

/-- The token at its place in the text: what character it begins with, and behind what character it ends. -/
def reloc (cs : List S55) (t : S26) : S26 := ⟨t.f0, t.f1, (rd_T55 cs t.f2).f1, wrap64 ((rd_T55 cs (t.f3 - 1)).f1 + (rd_T55 cs (t.f3 - 1)).f2), t.f4⟩
def toksR (l : List UInt8) : List (S26 × Int) := toksF 0 false [] (bytesL (charsR l).1)
/-- What Scan answers. -/
def scanR (l : List UInt8) : List S26 × Int :=
  if checkR l = 0 then (if errT (toksR l) = 0 then ((toksR l).map (fun p => reloc (charsR l).1 p.1), 0) else ([], errT (toksR l))) else ([], checkR l)
def scan_Scan.f (a0 : ByteArray) : Option (List S26 × Int) := some (scanR (L a0))
def numsOf (cs : List S55) : List Int := cs.map (fun c => c.f0)

theorem L_numsOf (cs : List S55) : L (strOfNums (numsOf cs)) = bytesL cs := by
  unfold strOfNums
  rw [L_mk]
  unfold numsOf bytesL
  rw [List.map_map]; rfl
theorem nums_step (cs : List S55) (i N : Nat) (hN : N = cs.length) (h : i < N) :
    (numsOf (cs.take i) ++ List.replicate (N - i) 0).set i (rd_T55 cs (i : Int)).f0 = numsOf (cs.take (i + 1)) ++ List.replicate (N - (i + 1)) 0 := by
  have hl : (numsOf (cs.take i)).length = i := by rw [numsOf, List.length_map, List.length_take]; omega
  obtain ⟨m, hm⟩ : ∃ m, N - i = m + 1 := ⟨N - i - 1, by omega⟩
  rw [hm, show N - (i + 1) = m by omega, List.replicate_succ (n := m), List.set_append_right _ _ (by omega), hl, Nat.sub_self, List.set_cons_zero]
  have : cs.take (i + 1) = cs.take i ++ [rd_T55 cs (i : Int)] := by
    rw [List.take_add_one]
    congr 1
    simp [rd_T55, List.getD_eq_getElem?_getD, show i < cs.length by omega]
  rw [this]
  simp [numsOf]
def tokCs (xs : List S26) : List Value := xs.flatMap (fun x => (tokB x).toList)
theorem tokCs_snoc (xs : List S26) (x : S26) : tokCs (xs ++ [x]) = tokCs xs ++ (tokB x).toList := by simp [tokCs]
theorem grown_set (W : World) (b j : Nat) (u : Value) : W.grownBy (W.setCell ⟨b, j, none⟩ u) (some b) :=
  ⟨rfl, rfl, rfl, (KeepsWalks.setCell W _ u).size, fun k _ hk => Below.heap_setCell _ _ _ k (fun e => hk (by rw [e]))⟩
theorem kp_append {Y w3 : World} {tmp : Obj} {n0 : Nat} {v : Value} {n : Nat} {xs : List Value} (hr : Y.ownsRow n0 26 5 v n xs) (hn : n = 0 → v = .slice none 0 0) (hg : (Y.alloc tmp).grownBy w3 v.ownBlock)
    (hf : ∀ g cap, v = .slice (some ⟨g, 0, none⟩) n cap → cap < n + 1 → (Y.alloc tmp).grownBy w3 none) (b : Nat) (hb : b < Y.heap.size) (hs : ∀ o, Y.heap[b]? = some o → v.ownBlock = some b → stays o = true) :
    w3.heap[b]? = Y.heap[b]? := by
  have hba : b < (Y.alloc tmp).heap.size := by simp; omega
  by_cases h : v.ownBlock = some b
  · rcases hr.2 with ⟨rfl, _⟩ | ⟨g, cap, cur, rfl, _, hc, hncap, _, hsz, _⟩
    · simp [Value.ownBlock] at h
    · obtain rfl : g = b := by simpa [Value.ownBlock] using h
      have h1 := hs _ hc h
      have h2 : cur.size = 5 := by simpa [stays] using h1
      have h3 : n ≠ 0 := fun e => by have := hn e; simp at this
      exact ((hf g cap rfl (by omega)).block g hba (by simp)).trans (Below.heap_alloc _ _ _ hb)
  · exact (hg.block b hba (fun e => h e.symm)).trans (Below.heap_alloc _ _ _ hb)
theorem row_ab {β : Type} (B Bo n0 : Nat) (len : β → Nat) (cells : β → List Value) {t e : TypeId} {size : Nat} (ht : t ≠ 9) (he : e ≠ 9) :
    AbT B 9 (fun (s : β) W => ∃ v, Boxed W Bo t v ∧ W.ownsRow n0 e size v (len s) (cells s) ∧ (len s = 0 → v = .slice none 0 0)) := by
  rintro s W W' row ⟨v, hb, hr, hn⟩ hg hrow
  refine ⟨v, hb.kept hg (fun h => ?_), own_move hr (fun k hk => hg.block k (own_lt hr k hk) (fun h => ?_)), hn⟩
  · obtain ⟨_, o, ho, h2⟩ := hrow Bo h.symm
    rw [show W.heap[Bo]? = _ from hb] at ho
    cases ho
    rcases h2 with h2 | ⟨cs, fr, h2⟩
    · cases h2
    · injection h2 with _ h3; exact ht h3
  · obtain ⟨_, o, ho, h2⟩ := hrow k h.symm
    obtain ⟨_, cur, hc⟩ := row_obj hr k hk
    rw [hc] at ho
    cases ho
    rcases h2 with h2 | ⟨cs, fr, h2⟩
    · cases h2
    · injection h2 with _ h3; exact he h3
theorem box_ab {β : Type} (B Bo : Nat) (v : Value) {t : TypeId} (ht : t ≠ 9) : AbT B 9 (fun (_ : β) W => Boxed W Bo t v) := by
  intro s W W' row hb hg hrow
  refine hb.kept hg (fun h => ?_)
  obtain ⟨_, o, ho, h2⟩ := hrow Bo h.symm
  rw [show W.heap[Bo]? = _ from hb] at ho
  cases ho
  rcases h2 with h2 | ⟨cs, fr, h2⟩
  · cases h2
  · injection h2 with _ h3; exact ht h3
theorem errT_zero (ts : List (S26 × Int)) (h : ∀ p ∈ ts, p.2 = 0) : errT ts = 0 := by
  unfold errT
  rw [List.find?_eq_none.2 (fun p hp => by simp [h p hp])]; rfl
theorem errT_last (ts : List (S26 × Int)) (t : S26) (e : Int) (h : ∀ p ∈ ts, p.2 = 0) (he : e ≠ 0) : errT (ts ++ [(t, e)]) = e := by
  unfold errT
  rw [List.find?_append, List.find?_eq_none.2 (fun p hp => by simp [h p hp])]
  simp [he]
theorem scan_ok (l : List UInt8) (cs : List S55) (ys : List (S26 × Int)) (hc : checkR l = 0) (hcs : cs = (charsR l).1) (hys : ys = toksF 0 false [] (bytesL cs)) (hz : ∀ p ∈ ys, p.2 = 0) :
    scanR l = (ys.map (fun p => reloc cs p.1), 0) := by
  unfold scanR toksR
  rw [if_pos hc, ← hcs, ← hys, errT_zero ys hz, if_pos rfl]
theorem scan_err (l : List UInt8) (cs : List S55) (pre : List (S26 × Int)) (e : Int) (hc : checkR l = 0) (hcs : cs = (charsR l).1) (hp : pre <+: toksF 0 false [] (bytesL cs)) (he : e ≠ 0)
    (h : ∃ pre0 t, pre = pre0 ++ [(t, e)] ∧ ∀ p ∈ pre0, p.2 = 0) : scanR l = ([], e) := by
  obtain ⟨pre0, t, rfl, hz⟩ := h
  have h1 := toks_err _ 0 false [] (bytesL cs) rfl pre0 t e hp he
  unfold scanR toksR
  rw [if_pos hc, ← hcs, ← h1, errT_last pre0 t e hz he, if_neg he]
theorem reps26 (w : World) (base : Nat) (ok : Nat → Prop) (xs : List S26) : Reps (k26.M w base ok) 5 xs (tokCs xs) := by
  induction xs with
  | nil => exact Reps.none _ _
  | cons x xs ih =>
    have h1 : Reps (k26.M w base ok) 5 [x] (tokB x).toList := Reps.snoc (Reps.none _ 5) (k26_mkM _ _ _ x) rfl
    exact Kd.reps_append h1 ih
theorem R26_of {w : World} {base : Nat} {v : Value} {xs : List S26} (h : w.ownsRow base 26 5 v xs.length (tokCs xs)) : Kd.R k26 26 w base (fun _ => True) v xs :=
  ⟨fun _ _ => trivial, tokCs xs, h, reps26 _ _ _ _⟩
set_option maxHeartbeats 6000000 in
set_option maxRecDepth 100000 in
theorem scan_main (s : ByteArray) (hc : checkR (L s) = 0) (w : World) (hm : HasMax w) :
    Calls Try.prog 56 #[.string s] w fun e w' => ∃ v : Value, e = .returned (.tuple #[v, .int .i64 (scanR (L s)).2]) ∧ Kd.R k26 26 w' w.heap.size (fun _ => True) v (scanR (L s)).1 ∧ Below w.heap.size w w' := by
  have HSM := Aside0.mk (checkR_small hc)
  obtain ⟨cs, hcs⟩ : ∃ cs, cs = (charsR (L s)).1 := ⟨_, rfl⟩
  have HCH : Aside0 (phys_Chars.f s = some (cs, 0)) := ⟨by unfold phys_Chars.f; rw [hcs]; unfold charsR; rw [if_pos hc]⟩
  have HLE := Aside0.mk (charsR_le s)
  have HBY := Aside0.mk (charsR_byte (L s))
  rw [← hcs] at HLE HBY
  obtain ⟨N, hN⟩ : ∃ N, N = cs.length := ⟨_, rfl⟩
  have hN6 : N ≤ 65536 := by rw [hN]; exact HLE.out
  replace hcs := Aside0.mk hcs
  have HM := Aside0.mk hm
  have HC0 := Aside0.mk hc
  clear hc hm
  refine (callsIn_wide (n := 4)).1 ?_
  refine callsIn_of_wp_marks Try.func56 rfl trivial ?_ rfl
  simp only [Try.ntmps56, List.size_toArray, List.length_cons, List.length_nil, Nat.reduceAdd, Nat.reduceSub, Array.replicate_succ, Array.replicate_zero, List.push_toArray, List.append_toArray, List.nil_append, List.cons_append]
  refine (wpIn_wide (n := 4)).2 ?_
  go_wp2_with fail
  refine wp_scope_straight ?_
  go_wp2_with (first
    | (go_at_call 41; refine (phys_Chars.calls s cs 0 _ HCH.out).mono ?_; rintro e w1 ⟨vl, rfl, hR1, hB1⟩; obtain ⟨Al, cl, rfl⟩ := Kd.R_slice hR1; have hC1 := (Kd.R_reads' hR1).2.2; rw [← hN] at hR1 hC1 ⊢; replace hN := Aside0.mk hN; have HB1 := Aside0.mk hB1; have HC1 := Aside0.mk hC1; have HR1 := Aside0.mk hR1; clear hR1 hC1 hB1)
    | ((with_reducible refine gate_dst (N := 23) rfl ?_); (try (refine gate_guard (by rfl) ?_; dsimp only)); refine Kd.R_make (Kd.int .u8) _ 5 rfl (N := 23) rfl 72 _ _ rfl (N : Int) rfl rfl Try.underlying72 (.int .u8 0) 1 info5 rfl (by decide) (by omega) 0 (ok := fun _ => True) (okp := fun _ => True) rfl (fun _ hk => hk) trivial (by omega) (by rw [Int.toNat_natCast]; omega) (Below.refl _ _) (Nat.le_refl _) ?_; intro vb wb hob hbb hgb hnb
       rw [Int.toNat_natCast] at hob
       obtain ⟨Ab, cb, rfl⟩ := Kd.R_slice hob
       rw [List.length_replicate] at hob ⊢
       replace hob := Aside0.mk hob
       have HBB := Aside0.mk hbb
       have bl0 := (Boxed.new w1 51 (.slice Al N cl)).alloc (.cells #[.int .i64 0] 31)
       have be0 := Boxed.new (w1.alloc (.cells #[.slice Al N cl] 51)) 31 (.int .i64 0)
       rw [World.size_alloc] at be0
       obtain ⟨W0, hW0⟩ : ∃ W0, W0 = (w1.alloc (.cells #[.slice Al N cl] 51)).alloc (.cells #[.int .i64 0] 31) := ⟨_, rfl⟩
       have hs0 : W0.heap.size = w1.heap.size + 2 := by rw [hW0]; simp
       have hb10 : Below w1.heap.size w1 W0 := by rw [hW0]; exact below_alloc (below_alloc (Below.refl _ _) _) _
       rw [← hW0] at bl0 be0 hob HBB hbb
       have HB10 := Aside0.mk hb10
       have hql : wb.cell? ⟨w1.heap.size, 0, none⟩ = some (.slice Al N cl) := Boxed.cell ((hbb.block _ (by omega)).trans bl0)
       have Bl0 := Aside0.mk bl0
       have Be0 := Aside0.mk be0
       replace hW0 := Aside0.mk hW0
       clear hgb hnb hbb bl0 be0 hb10))
  go_loopw [26] (fun v26 wr => ∃ i : Nat, v26 = .int .i64 i ∧ i ≤ N ∧ Aside0 (Kd.R (Kd.int .u8) 5 wr W0.heap.size (fun _ => True) (.slice Ab N cb) (numsOf (cs.take i) ++ List.replicate (N - i) 0)) ∧ Aside0 (Below W0.heap.size W0 wr)) (fun v26 _ => N - (intOf v26).toNat)
  case atStart => exact ⟨0, rfl, Nat.zero_le _, ⟨by rw [Nat.sub_zero]; exact hob.out⟩, HBB⟩
  case round =>
    obtain ⟨i, rfl, hi, HO, HB⟩ := hrel
    clear hob HBB hql
    have hql : wr.cell? ⟨w1.heap.size, 0, none⟩ = some (.slice Al N cl) := Boxed.cell ((HB.out.block _ (by omega)).trans Bl0.out)
    by_cases hlt : i < N
    · obtain ⟨ad, e1, h0, h1, h2⟩ := at_T55 HC1.out (i : Int) (by omega) (by omega)
      cases e1
      have HD := Aside0.mk (drop_rd55 cs i (by rw [← hN.out]; exact hlt))
      have HT := Aside0.mk (nums_step cs i N hN.out hlt)
      generalize rd_T55 cs (i : Int) = t at *
      obtain ⟨x0, x1, x2⟩ := t
      simp only [Int.toNat_natCast] at h0 h1 h2
      replace h0 := pw_cell_below (below_step HB10.out HB.out) h0
      replace h1 := pw_cell_below (below_step HB10.out HB.out) h1
      replace h2 := pw_cell_below (below_step HB10.out HB.out) h2
      have hlen : (numsOf (cs.take i) ++ List.replicate (N - i) 0).length = N := by
        rw [List.length_append, List.length_replicate, numsOf, List.length_map, List.length_take, ← hN.out]; omega
      obtain ⟨gb, cb', eb, gb1, gb2, _⟩ := Kd.R_form HO.out (by rw [hlen]; omega)
      rw [hlen] at eb
      cases eb
      have p86 : 0 ≤ (i : Int) := by omega
      have q86 : (i : Int) < (N : Int) := by omega
      have HO1 := Aside0.mk (Kd.R_alloc (o := .cells #[.int .u8 x0, .int .i64 x1, .int .i64 x2] 55) HO.out)
      obtain ⟨hx86, hf86⟩ := Kd.R_celln 0 HO1.out (i : Int) p86 q86
      have HP88 := Kd.R_putg HO1.out (i : Int) x0
      rw [Int.toNat_natCast, HT.out] at HP88
      rw [Int.toNat_natCast] at hx86 hf86
      have d86 : decide ((i : Int) < (N : Int)) = true := decide_eq_true q86
      replace p86 := eq_true p86
      replace q86 := eq_true q86
      go_wp2_with ((with_reducible refine gate_store (t := 5) (p := 35) rfl ?_); refine store_event (t := 5) (p := 35) (v := ?vo_w89) (w1 := ((wr.alloc (.cells #[.int .u8 x0, .int .i64 x1, .int .i64 x2] 55)).setCell ⟨gb, i, none⟩ (.int .u8 x0))) ?hg ?ho ?hn ?hr ?_; (case ho => rfl); (case hg => rfl); (case hn => rfl); (case hr => first | (go_simp; done) | (go_simp; rfl)); intro w89 hw; have hp_ : Kd.R (Kd.int .u8) 5 w89 W0.heap.size (fun _ => True) (.slice (some ⟨gb, 0, none⟩) N cb) (numsOf (cs.take (i + 1)) ++ List.replicate (N - (i + 1)) 0) := (by rw [hw]; exact HP88.1); have n0_ := Aside0.mk (hp_); have n1_ := Aside0.mk ((by rw [hw]; exact below_set (below_alloc HB.out _) gb1 : Below W0.heap.size W0 w89)); clear HO HO1; clear HB; have HO := n0_; have HB := n1_; clear n0_ n1_; clear hw hp_ HP88)
      go_roundw
      case rel => exact ⟨i + 1, by go_num, by omega, HO, HB⟩
      case measure => simp [intOf]; omega
    · have hie : i = N := by omega
      subst hie
      rw [Nat.sub_self, List.replicate_zero, List.append_nil, List.take_of_length_le (by rw [← hN.out]; exact Nat.le_refl _)] at HO
      have hNl := hN.out
      have HOa := Aside0.mk (Kd.R_alloc (o := .cells #[.slice none 0 0] 22) HO.out)
      obtain ⟨tx, htx⟩ : ∃ tx, tx = strOfNums (numsOf cs) := ⟨_, rfl⟩
      have hcv := own_string (P := Try.prog) Try.underlying72 Try.underlying5 Try.underlying9 (Kd.own_of_R HOa.out)
      rw [← htx] at hcv
      have hLt : L tx = bytesL cs := by rw [htx]; exact L_numsOf cs
      have hsz : tx.size ≤ 65536 := by rw [← L_length, hLt]; unfold bytesL; rw [List.length_map, ← hNl]; exact hN6
      replace hLt := Aside0.mk hLt
      replace htx := Aside0.mk htx
      clear hNl
      go_wp2_with fail
      go_step3
      go_wp2
      go_wp2_with (go_at_call 86; refine ((callsIn_wide (n := 3)).1 (tokens_in 3 tx _)).mono ?_; rintro e w2 ⟨rfl, rfl⟩)
      have hs2 : ((wr.alloc (.cells #[.slice none 0 0] 22)).alloc (.cells #[.string tx] 9)).heap.size = wr.heap.size + 2 := by simp
      have hw0 := HB.out.size
      have bO := (Boxed.new wr 22 (.slice none 0 0)).alloc (.cells #[.string tx] 9)
      have bP := Boxed.new (wr.alloc (.cells #[.slice none 0 0] 22)) 9 (.string tx)
      rw [World.size_alloc] at bP
      have hB3 : Below wr.heap.size wr ((wr.alloc (.cells #[.slice none 0 0] 22)).alloc (.cells #[.string tx] 9)) := below_alloc (below_alloc (Below.refl _ _) _) _
      have hBw : Below w.heap.size w wr := below_step HB1.out (below_step HB10.out HB.out)
      refine (wpIn_wide (n := 4)).1 ?_
      refine wpIn_rangeT 9 rfl (by omega) (gf := 105) (lb := #[.pointer (some ⟨wr.heap.size + 1, 0, none⟩)]) rfl trivial (enters_of Try.func105 (by kernel_rfl) rfl)
        (tokens_seq 3 (by omega) (wr.heap.size + 1) tx (by omega) _ bP (max_below hB3 (max_below hBw HM.out))) (Below.refl _ _) (fun _ => rfl)
        (fun pre W => (∃ v, Boxed W wr.heap.size 22 v ∧ W.ownsRow wr.heap.size 26 5 v pre.length (tokCs (pre.map (fun p => reloc cs p.1))) ∧ (pre.length = 0 → v = .slice none 0 0)) ∧ ((∀ p ∈ pre, p.2 = 0) ∧ Below wr.heap.size wr W))
        (fun c pre W => (∃ e, c = .exit 2 ∧ e ≠ 0 ∧ (∃ pre0 t, pre = pre0 ++ [(t, e)] ∧ ∀ p ∈ pre0, p.2 = 0) ∧ Boxed W (w1.heap.size + 1) 31 (.int .i64 e)) ∧ (Boxed W wr.heap.size 22 (.slice none 0 0) ∧ Below w.heap.size w W))
        (AbT.and (row_ab _ _ _ _ _ (by decide) (by decide)) (AbT.and (AbT.pure _ _ _) (below_ab _ _ _ (Nat.le_refl _) (by rw [hs2]; omega))))
        (fun c s X Y row hs hg hr => ⟨by obtain ⟨e, g1, g2, g3, g4⟩ := hs.1; exact ⟨e, g1, g2, g3, box_ab (β := Unit) _ _ _ (by decide) () X Y row g4 hg hr⟩, box_ab (β := Unit) _ _ _ (by decide) () X Y row hs.2.1 hg hr, below_ab (β := Unit) _ _ _ (Nat.le_refl _) (by have := hBw.size; rw [hs2]; omega) () X Y row hs.2.2 hg hr⟩)
        ⟨⟨_, bO, World.ownsRow_nil _ _ _ _, fun _ => rfl⟩, ⟨by simp, hB3⟩⟩
        (fun x W0' a' W => ∃ Bx v0, (wr.heap.size < Bx ∧ W0'.heap.size ≤ Bx ∧ Boxed W0' wr.heap.size 22 v0) ∧ Blk W Bx (tokB x.1) 26 ∧ (Boxed W wr.heap.size 22 v0 ∧ v0.ownBlock ≠ some Bx) ∧ a' = { tmps := #[.string s, undef, .slice none 0 0, .int .i64 0, .pointer (some ⟨w1.heap.size, 0, none⟩), .pointer (some ⟨w1.heap.size + 1, 0, none⟩), .slice Ab i cb, u7, u8, .pointer (some ⟨wr.heap.size, 0, none⟩), .pointer (some ⟨Bx, 0, none⟩), .int .i64 x.2, undef, .tuple #[.slice Al i cl, .int .i64 0], .string s, .tuple #[.slice Al i cl, .int .i64 0], .slice Al i cl, .int .i64 0, .int .i64 0, .bool false, undef, .slice Al i cl, .int .i64 i, .slice Ab i cb, .slice Al i cl, .int .i64 i, .int .i64 i, .bool false, u28, u29, u30, u31, u32, u33, u34, u35, u36, .slice Ab i cb, .string tx, .func (.func 105) #[] #[.pointer (some ⟨wr.heap.size + 1, 0, none⟩)], .agg (tokB x.1), .int .i64 x.2, undef, undef, undef, undef, undef, undef, undef, undef, undef, undef, undef, undef, undef, undef, undef, undef, undef, undef, undef, undef, undef, undef, undef, undef, undef, undef, undef, undef], defers := [] })
        (fun x W0' a' _ X Y row hs hg hr => by obtain ⟨Bx, v0, g1, g2, g4, g3⟩ := hs; exact ⟨Bx, v0, g1, blk_ab (β := Unit) _ _ _ (by decide) () X Y row g2 hg hr, ⟨box_ab (β := Unit) _ _ _ (by decide) () X Y row g4.1 hg hr, g4.2⟩, g3⟩)
        ?assign ?body ?done ?stop
      case assign =>
        rintro l pre x W K ⟨⟨v, bO1, hr1, hv1⟩, hz, hB4⟩ hK
        dsimp only [encT]
        gi_wp2
        have hlt := bO1.lt
        exact hK _ _ ((KeepsOthers.alloc _ _).from _) (KpT.grown (World.grownBy_alloc W _ none) (by simp) (by omega)) ⟨⟨v, bO1.alloc _, hr1.alloc _, hv1⟩, hz, below_alloc hB4 _⟩ ⟨W.heap.size, v, ⟨hlt, Nat.le_refl _, bO1⟩, World.alloc_heap_new W _, ⟨bO1.alloc _, fun h => by have := own_lt hr1 _ h; omega⟩, rfl⟩
      case body =>
        rintro l pre ⟨⟨k, tt, p, q, sp⟩, e⟩ a' Wp W hl ⟨r, hr⟩ ⟨⟨v, bO1, hr1, hv1⟩, hz, hB4⟩ ⟨Bx, v0, ⟨hBx, hBp, hbp⟩, bX, ⟨hb0, hnb⟩, rfl⟩ hpr hkp
        obtain rfl : v0 = v := by
          have := hb0.symm.trans bO1
          simpa using this
        have cO := bO1.cell
        have fO := bO1.frozen
        have hE : Boxed W (w1.heap.size + 1) 31 (.int .i64 0) := (hB4.block _ (by omega)).trans ((HB.out.block _ (by omega)).trans Be0.out)
        have cE := hE.cell
        have fE := hE.frozen
        by_cases he : e = 0
        · subst he
          obtain ⟨a, b, ha, hb, _, hab, hbl⟩ := toks_bd _ 0 false [] (L tx) rfl _ (hpr.subset (List.mem_append_right _ (List.mem_singleton.2 rfl))) rfl
          dsimp only at ha hb
          subst ha
          subst hb
          rw [Nat.zero_add, hLt.out, show (bytesL cs).length = i by unfold bytesL; rw [List.length_map]; exact hN.out.symm] at hbl
          obtain ⟨ad, e1, g0, g1, g2⟩ := at_T55 HC1.out (b : Int) (by omega) (by omega)
          cases e1
          obtain ⟨ad', e2, j0, j1, j2⟩ := at_T55 HC1.out (a : Int) (by omega) (by omega)
          cases e2
          have hHB : Below w1.heap.size w1 W := below_step (below_step HB10.out HB.out) hB4
          replace g0 := pw_cell_below hHB g0
          replace g1 := pw_cell_below hHB g1
          replace g2 := pw_cell_below hHB g2
          replace j0 := pw_cell_below hHB j0
          replace j1 := pw_cell_below hHB j1
          replace j2 := pw_cell_below hHB j2
          simp only [Int.toNat_natCast] at g0 g1 g2 j0 j1 j2
          have cL : W.cell? ⟨w1.heap.size, 0, none⟩ = some (.slice (some ad) i cl) := Boxed.cell ((hB4.block _ (by omega)).trans ((HB.out.block _ (by omega)).trans Bl0.out))
          have x0 : W.cell? ⟨Bx, 0, none⟩ = some (.int .i64 k) := bX.cell 0
          have x1 : W.cell? ⟨Bx, 1, none⟩ = some (.string tt) := bX.cell 1
          have x2 : W.cell? ⟨Bx, 2, none⟩ = some (.int .i64 a) := bX.cell 2
          have x3 : W.cell? ⟨Bx, 3, none⟩ = some (.int .i64 ((b + 1 : Nat) : Int)) := bX.cell 3
          have x4 : W.cell? ⟨Bx, 4, none⟩ = some (.bool sp) := bX.cell 4
          rw [show ((b + 1 : Nat) : Int) = (b : Int) + 1 by omega] at x3
          have hbi : (b : Int) < (i : Int) := by omega
          have hai : (a : Int) < (i : Int) := by omega
          obtain ⟨⟨b0, b1, b2⟩, htb⟩ : ∃ tb, rd_T55 cs (b : Int) = tb := ⟨_, rfl⟩
          obtain ⟨⟨a0, a1, a2⟩, hta⟩ : ∃ ta, rd_T55 cs (a : Int) = ta := ⟨_, rfl⟩
          rw [htb] at g0 g1 g2
          rw [hta] at j0 j1 j2
          have hrel : reloc cs ⟨k, tt, (a : Int), ((b + 1 : Nat) : Int), sp⟩ = ⟨k, tt, a1, wrap64 (b1 + b2), sp⟩ := by
            unfold reloc
            dsimp only
            rw [show ((b + 1 : Nat) : Int) - 1 = (b : Int) by omega, htb, hta]
          replace hrel := Aside0.mk hrel
          have hpl : pre.length ≤ 65536 := by
            have h1 := hpr.length_le
            have h2 := toks_len _ 0 false [] (L tx) rfl
            rw [L_length] at h2
            rw [List.length_append, List.length_singleton] at h1
            omega
          clear htb hta
          dsimp only at g0 g1 g2 j0 j1 j2
          clear hHB
          gi_wp2
          have hBW : Bx < W.heap.size := (Array.getElem?_eq_some_iff.1 bX).1
          have nLb := World.alloc_heap_new W (.cells #[.int .u8 b0, .int .i64 b1, .int .i64 b2] 55)
          have bXX : Blk (W.alloc (.cells #[.int .u8 b0, .int .i64 b1, .int .i64 b2] 55)) Bx (tokB ⟨k, tt, (a : Int), (b : Int) + 1, sp⟩) 26 := (Below.heap_alloc W _ _ hBW).trans bX
          have keep : ∀ (p : Addr) (u : Value), W.cell? p = some u → (W.alloc (.cells #[.int .u8 b0, .int .i64 b1, .int .i64 b2] 55)).cell? p = some u := fun p u h => pw_cell_below (below_alloc (Below.refl _ _) _) h
          have cLX := keep _ _ cL
          have j1X := keep _ _ j1
          have cOX := keep _ _ cO
          have hgX := World.grownBy_alloc W (.cells #[.int .u8 b0, .int .i64 b1, .int .i64 b2] 55) none
          have HXB : Below W.heap.size W (W.alloc (.cells #[.int .u8 b0, .int .i64 b1, .int .i64 b2] 55)) := below_alloc (Below.refl _ _) _
          have bO1X := bO1.alloc (.cells #[.int .u8 b0, .int .i64 b1, .int .i64 b2] 55)
          have hr1X := hr1.alloc (.cells #[.int .u8 b0, .int .i64 b1, .int .i64 b2] 55)
          obtain ⟨X, hX⟩ : ∃ X, X = W.alloc (.cells #[.int .u8 b0, .int .i64 b1, .int .i64 b2] 55) := ⟨_, rfl⟩
          rw [← hX] at nLb bXX cLX j1X cOX hgX HXB bO1X hr1X ⊢
          have l1 : X.cell? ⟨W.heap.size, 1, none⟩ = some (.int .i64 b1) := by simp [World.cell?, nLb]
          have l2 : X.cell? ⟨W.heap.size, 2, none⟩ = some (.int .i64 b2) := by simp [World.cell?, nLb]
          have y2 : X.cell? ⟨Bx, 2, none⟩ = some (.int .i64 a) := bXX.cell 2
          have y3 : X.cell? ⟨Bx, 3, none⟩ = some (.int .i64 ((b : Int) + 1)) := bXX.cell 3
          have f2 : X.frozen? ⟨Bx, 2, none⟩ = false := by simp [World.frozen?, show X.heap[Bx]? = _ from bXX]
          have f3 : X.frozen? ⟨Bx, 3, none⟩ = false := by simp [World.frozen?, show X.heap[Bx]? = _ from bXX]
          have hne : ¬ W.heap.size = Bx := by omega
          have hne2 : ¬ Bx = W.heap.size := by omega
          replace hX := Aside0.mk hX
          clear keep x0 x1 x2 x3 x4 g0 g1 g2 j0 j1 j2 cL cO fO cE fE hE
          replace hz := Aside0.mk hz
          replace hpr := Aside0.mk hpr
          replace hkp := Aside0.mk hkp
          replace hv1 := Aside0.mk hv1
          replace hbp := Aside0.mk hbp
          replace hB4 := Aside0.mk hB4
          replace HXB := Aside0.mk HXB
          replace hgX := Aside0.mk hgX
          replace bO1X := Aside0.mk bO1X
          replace hr1X := Aside0.mk hr1X
          replace bXX := Aside0.mk bXX
          replace nLb := Aside0.mk nLb
          replace bO1 := Aside0.mk bO1
          replace hr1 := Aside0.mk hr1
          replace cOX := Aside0.mk cOX
          clear bX hB3 hBw bO bP hcv
          refine region_inv (by kernel_rfl) (fun lm a' w' => ∃ c0 c1 c2 c3 c4 c5 c6 c7 c8 c9 c10 c11 c12 c13 c14 : Bool, lm = #[c0, c1, c2, c3, c4, c5, c6, c7, c8, c9, c10, c11, c12, c13, c14] ∧
            a' = { tmps := #[.string s, undef, .slice none 0 0, .int .i64 0, .pointer (some ⟨w1.heap.size, 0, none⟩), .pointer (some ⟨w1.heap.size + 1, 0, none⟩), .slice Ab i cb, u7, u8, .pointer (some ⟨wr.heap.size, 0, none⟩), .pointer (some ⟨Bx, 0, none⟩), .int .i64 0, .pointer (some ⟨W.heap.size, 0, none⟩), .tuple #[.slice (some ad) i cl, .int .i64 0], .string s, .tuple #[.slice (some ad) i cl, .int .i64 0], .slice (some ad) i cl, .int .i64 0, .int .i64 0, .bool false, undef, .slice (some ad) i cl, .int .i64 i, .slice Ab i cb, .slice (some ad) i cl, .int .i64 i, .int .i64 i, .bool false, u28, u29, u30, u31, u32, u33, u34, u35, u36, .slice Ab i cb, .string tx, .func (.func 105) #[] #[.pointer (some ⟨wr.heap.size + 1, 0, none⟩)], .agg (tokB ⟨k, tt, (a : Int), (b : Int) + 1, sp⟩), .int .i64 0, .int .i64 0, .bool false, undef, .slice (some ad) i cl, .pointer (some ⟨Bx, 3, none⟩), .int .i64 ((b : Int) + 1), .int .i64 b, .pointer (some (ad.add (b * 3))), .agg #[.int .u8 b0, .int .i64 b1, .int .i64 b2], cond c0 (.slice (some ad) i cl) undef, cond c1 (.pointer (some ⟨Bx, 2, none⟩)) undef, cond c2 (.int .i64 a) undef, cond c3 (.pointer (some (ad.add (a * 3)))) undef, cond c4 (.pointer (some ⟨(ad.add (a * 3)).block, (ad.add (a * 3)).off + 1, none⟩)) undef, cond c5 (.int .i64 a1) undef, cond c6 (.pointer (some ⟨W.heap.size, 1, none⟩)) undef, cond c7 (.int .i64 b1) undef, cond c8 (.pointer (some ⟨W.heap.size, 2, none⟩)) undef, cond c9 (.int .i64 b2) undef, cond c10 (.int .i64 (wrap64 (b1 + b2))) undef, cond c11 (.pointer (some ⟨Bx, 2, none⟩)) undef, cond c13 (.pointer (some ⟨Bx, 3, none⟩)) undef, undef, undef, undef, undef, undef, undef], defers := [] } ∧
            w' = (match c12, c14 with
              | false, false => X.drew
              | true, false => X.drew.setCell ⟨Bx, 2, none⟩ (.int .i64 a1)
              | false, true => X.drew.setCell ⟨Bx, 3, none⟩ (.int .i64 (wrap64 (b1 + b2)))
              | true, true => (X.drew.setCell ⟨Bx, 2, none⟩ (.int .i64 a1)).setCell ⟨Bx, 3, none⟩ (.int .i64 (wrap64 (b1 + b2)))) ∧
            ((c12 = true → c0 = true ∧ c1 = true ∧ c2 = true ∧ c3 = true ∧ c4 = true ∧ c5 = true ∧ c11 = true) ∧ (c14 = true → c12 = true ∧ c6 = true ∧ c7 = true ∧ c8 = true ∧ c9 = true ∧ c10 = true ∧ c13 = true))) ?_ ?_ ?_
          · exact ⟨false, false, false, false, false, false, false, false, false, false, false, false, false, false, false, rfl, rfl, rfl, by simp⟩
          · rintro lm a' w' i' ⟨c0, c1, c2, c3, c4, c5, c6, c7, c8, c9, c10, c11, c12, c13, c14, rfl, rfl, rfl, hI⟩ hi'
            obtain ⟨hlt', hop'⟩ := ready_open hi'
            have hd' := ready_deps hi'
            clear hi'
            have hc' : i' = 0 ∨ i' = 1 ∨ i' = 2 ∨ i' = 3 ∨ i' = 4 ∨ i' = 5 ∨ i' = 6 ∨ i' = 7 ∨ i' = 8 ∨ i' = 9 ∨ i' = 10 ∨ i' = 11 ∨ i' = 12 ∨ i' = 13 ∨ i' = 14 := by simp at hlt'; omega
            rcases hc' with rfl | rfl | rfl | rfl | rfl | rfl | rfl | rfl | rfl | rfl | rfl | rfl | rfl | rfl | rfl
            · replace hd' := hd' _ rfl
              simp [Region.binds] at hd' hop'
              subst hop'
              repeat (obtain ⟨h_, hd'⟩ := hd'; first | subst h_ | skip)
              try subst hd'
              obtain rfl : c12 = false := by cases c12; rfl; exact absurd (hI.1 rfl) (by simp)
              obtain rfl : c14 = false := by cases c14; rfl; exact absurd (hI.2 rfl).1 (by decide)
              refine wpOpIn_step rfl ?_
              intro K' hK'
              rw [if_pos (by rfl)]
              unfold Oper.wpIn
              refine ⟨by simp [Oper.about], ?_⟩
              go_simp
              exact hK' _ _ ⟨_, _, _, _, _, _, _, _, _, _, _, _, _, _, _, rfl, rfl, rfl, by simp⟩
            · replace hd' := hd' _ rfl
              simp [Region.binds] at hd' hop'
              subst hop'
              repeat (obtain ⟨h_, hd'⟩ := hd'; first | subst h_ | skip)
              try subst hd'
              obtain rfl : c12 = false := by cases c12; rfl; exact absurd (hI.1 rfl) (by simp)
              obtain rfl : c14 = false := by cases c14; rfl; exact absurd (hI.2 rfl).1 (by decide)
              refine wpOpIn_step rfl ?_
              intro K' hK'
              rw [if_pos (by rfl)]
              unfold Oper.wpIn
              refine ⟨by simp [Oper.about], ?_⟩
              go_simp
              exact hK' _ _ ⟨_, _, _, _, _, _, _, _, _, _, _, _, _, _, _, rfl, rfl, rfl, by simp⟩
            · replace hd' := hd' _ rfl
              simp [Region.binds] at hd' hop'
              subst hop'
              repeat (obtain ⟨h_, hd'⟩ := hd'; first | subst h_ | skip)
              try subst hd'
              obtain rfl : c12 = false := by cases c12; rfl; exact absurd (hI.1 rfl) (by simp)
              obtain rfl : c14 = false := by cases c14; rfl; exact absurd (hI.2 rfl).1 (by decide)
              refine wpOpIn_step rfl ?_
              intro K' hK'
              rw [if_pos (by rfl)]
              unfold Oper.wpIn
              refine ⟨by simp [Oper.about], ?_⟩
              go_simp
              exact hK' _ _ ⟨_, _, _, _, _, _, _, _, _, _, _, _, _, _, _, rfl, rfl, rfl, by simp⟩
            · replace hd' := hd' _ rfl
              simp [Region.binds] at hd' hop'
              subst hop'
              repeat (obtain ⟨h_, hd'⟩ := hd'; first | subst h_ | skip)
              try subst hd'
              obtain rfl : c12 = false := by cases c12; rfl; exact absurd (hI.1 rfl) (by simp)
              obtain rfl : c14 = false := by cases c14; rfl; exact absurd (hI.2 rfl).1 (by decide)
              refine wpOpIn_step rfl ?_
              intro K' hK'
              rw [if_pos (by rfl)]
              unfold Oper.wpIn
              refine ⟨by simp [Oper.about], ?_⟩
              go_simp
              exact hK' _ _ ⟨_, _, _, _, _, _, _, _, _, _, _, _, _, _, _, rfl, rfl, rfl, by simp⟩
            · replace hd' := hd' _ rfl
              simp [Region.binds] at hd' hop'
              subst hop'
              repeat (obtain ⟨h_, hd'⟩ := hd'; first | subst h_ | skip)
              try subst hd'
              obtain rfl : c12 = false := by cases c12; rfl; exact absurd (hI.1 rfl) (by simp)
              obtain rfl : c14 = false := by cases c14; rfl; exact absurd (hI.2 rfl).1 (by decide)
              refine wpOpIn_step rfl ?_
              intro K' hK'
              rw [if_pos (by rfl)]
              unfold Oper.wpIn
              refine ⟨by simp [Oper.about], ?_⟩
              go_simp
              exact hK' _ _ ⟨_, _, _, _, _, _, _, _, _, _, _, _, _, _, _, rfl, rfl, rfl, by simp⟩
            · replace hd' := hd' _ rfl
              simp [Region.binds] at hd' hop'
              subst hop'
              repeat (obtain ⟨h_, hd'⟩ := hd'; first | subst h_ | skip)
              try subst hd'
              obtain rfl : c12 = false := by cases c12; rfl; exact absurd (hI.1 rfl) (by simp)
              obtain rfl : c14 = false := by cases c14; rfl; exact absurd (hI.2 rfl).1 (by decide)
              refine wpOpIn_step rfl ?_
              intro K' hK'
              rw [if_pos (by rfl)]
              unfold Oper.wpIn
              refine ⟨by simp [Oper.about], ?_⟩
              go_simp
              exact hK' _ _ ⟨_, _, _, _, _, _, _, _, _, _, _, _, _, _, _, rfl, rfl, rfl, by simp⟩
            · replace hd' := hd' _ rfl
              simp [Region.binds] at hd' hop'
              subst hop'
              repeat (obtain ⟨h_, hd'⟩ := hd'; first | subst h_ | skip)
              try subst hd'
              obtain rfl : c14 = false := by cases c14; rfl; exact absurd (hI.2 rfl) (by simp)
              have hI1 := Aside0.mk hI.1
              clear hI
              cases c12
              · refine wpOpIn_step rfl ?_
                intro K' hK'
                rw [if_pos (by rfl)]
                unfold Oper.wpIn
                refine ⟨by simp [Oper.about], ?_⟩
                go_simp
                exact hK' _ _ ⟨_, _, _, _, _, _, _, _, _, _, _, _, _, _, _, rfl, rfl, rfl, hI1.out, by simp⟩
              · refine wpOpIn_step rfl ?_
                intro K' hK'
                rw [if_pos (by rfl)]
                unfold Oper.wpIn
                refine ⟨by simp [Oper.about], ?_⟩
                go_simp
                exact hK' _ _ ⟨_, _, _, _, _, _, _, _, _, _, _, _, _, _, _, rfl, rfl, rfl, hI1.out, by simp⟩
            · replace hd' := hd' _ rfl
              simp [Region.binds] at hd' hop'
              subst hop'
              repeat (obtain ⟨h_, hd'⟩ := hd'; first | subst h_ | skip)
              try subst hd'
              obtain rfl : c14 = false := by cases c14; rfl; exact absurd (hI.2 rfl) (by simp)
              have hI1 := Aside0.mk hI.1
              clear hI
              cases c12
              · refine wpOpIn_step rfl ?_
                intro K' hK'
                rw [if_pos (by rfl)]
                unfold Oper.wpIn
                refine ⟨by simp [Oper.about], ?_⟩
                go_simp
                exact hK' _ _ ⟨_, _, _, _, _, _, _, _, _, _, _, _, _, _, _, rfl, rfl, rfl, hI1.out, by simp⟩
              · refine wpOpIn_step rfl ?_
                intro K' hK'
                rw [if_pos (by rfl)]
                unfold Oper.wpIn
                refine ⟨by simp [Oper.about], ?_⟩
                go_simp
                exact hK' _ _ ⟨_, _, _, _, _, _, _, _, _, _, _, _, _, _, _, rfl, rfl, rfl, hI1.out, by simp⟩
            · replace hd' := hd' _ rfl
              simp [Region.binds] at hd' hop'
              subst hop'
              repeat (obtain ⟨h_, hd'⟩ := hd'; first | subst h_ | skip)
              try subst hd'
              obtain rfl : c14 = false := by cases c14; rfl; exact absurd (hI.2 rfl) (by simp)
              have hI1 := Aside0.mk hI.1
              clear hI
              cases c12
              · refine wpOpIn_step rfl ?_
                intro K' hK'
                rw [if_pos (by rfl)]
                unfold Oper.wpIn
                refine ⟨by simp [Oper.about], ?_⟩
                go_simp
                exact hK' _ _ ⟨_, _, _, _, _, _, _, _, _, _, _, _, _, _, _, rfl, rfl, rfl, hI1.out, by simp⟩
              · refine wpOpIn_step rfl ?_
                intro K' hK'
                rw [if_pos (by rfl)]
                unfold Oper.wpIn
                refine ⟨by simp [Oper.about], ?_⟩
                go_simp
                exact hK' _ _ ⟨_, _, _, _, _, _, _, _, _, _, _, _, _, _, _, rfl, rfl, rfl, hI1.out, by simp⟩
            · replace hd' := hd' _ rfl
              simp [Region.binds] at hd' hop'
              subst hop'
              repeat (obtain ⟨h_, hd'⟩ := hd'; first | subst h_ | skip)
              try subst hd'
              obtain rfl : c14 = false := by cases c14; rfl; exact absurd (hI.2 rfl) (by simp)
              have hI1 := Aside0.mk hI.1
              clear hI
              cases c12
              · refine wpOpIn_step rfl ?_
                intro K' hK'
                rw [if_pos (by rfl)]
                unfold Oper.wpIn
                refine ⟨by simp [Oper.about], ?_⟩
                go_simp
                exact hK' _ _ ⟨_, _, _, _, _, _, _, _, _, _, _, _, _, _, _, rfl, rfl, rfl, hI1.out, by simp⟩
              · refine wpOpIn_step rfl ?_
                intro K' hK'
                rw [if_pos (by rfl)]
                unfold Oper.wpIn
                refine ⟨by simp [Oper.about], ?_⟩
                go_simp
                exact hK' _ _ ⟨_, _, _, _, _, _, _, _, _, _, _, _, _, _, _, rfl, rfl, rfl, hI1.out, by simp⟩
            · replace hd' := hd' _ rfl
              simp [Region.binds] at hd' hop'
              subst hop'
              repeat (obtain ⟨h_, hd'⟩ := hd'; first | subst h_ | skip)
              try subst hd'
              obtain rfl : c14 = false := by cases c14; rfl; exact absurd (hI.2 rfl) (by simp)
              have hI1 := Aside0.mk hI.1
              clear hI
              cases c12
              · refine wpOpIn_step rfl ?_
                intro K' hK'
                rw [if_pos (by rfl)]
                unfold Oper.wpIn
                refine ⟨by simp [Oper.about], ?_⟩
                go_simp
                simp only [i64_w]
                exact hK' _ _ ⟨_, _, _, _, _, _, _, _, _, _, _, _, _, _, _, rfl, rfl, rfl, hI1.out, by simp⟩
              · refine wpOpIn_step rfl ?_
                intro K' hK'
                rw [if_pos (by rfl)]
                unfold Oper.wpIn
                refine ⟨by simp [Oper.about], ?_⟩
                go_simp
                simp only [i64_w]
                exact hK' _ _ ⟨_, _, _, _, _, _, _, _, _, _, _, _, _, _, _, rfl, rfl, rfl, hI1.out, by simp⟩
            · replace hd' := hd' _ rfl
              simp [Region.binds] at hd' hop'
              subst hop'
              repeat (obtain ⟨h_, hd'⟩ := hd'; first | subst h_ | skip)
              try subst hd'
              obtain rfl : c12 = false := by cases c12; rfl; exact absurd (hI.1 rfl) (by simp)
              obtain rfl : c14 = false := by cases c14; rfl; exact absurd (hI.2 rfl).1 (by decide)
              refine wpOpIn_step rfl ?_
              intro K' hK'
              rw [if_pos (by rfl)]
              unfold Oper.wpIn
              refine ⟨by simp [Oper.about], ?_⟩
              go_simp
              exact hK' _ _ ⟨_, _, _, _, _, _, _, _, _, _, _, _, _, _, _, rfl, rfl, rfl, by simp⟩
            · replace hd' := hd' _ rfl
              simp [Region.binds] at hd' hop'
              subst hop'
              repeat (obtain ⟨h_, hd'⟩ := hd'; first | subst h_ | skip)
              try subst hd'
              obtain rfl : c14 = false := by cases c14; rfl; exact absurd (hI.2 rfl).1 (by decide)
              refine wpOpIn_step rfl ?_
              intro K' hK'
              rw [if_pos (by rfl)]
              unfold Oper.wpIn
              refine ⟨by simp [Oper.about], ?_⟩
              go_simp
              exact hK' _ _ ⟨_, _, _, _, _, _, _, _, _, _, _, _, _, _, _, rfl, rfl, rfl, by simp⟩
            · replace hd' := hd' _ rfl
              simp [Region.binds] at hd' hop'
              subst hop'
              repeat (obtain ⟨h_, hd'⟩ := hd'; first | subst h_ | skip)
              try subst hd'
              obtain rfl : c14 = false := by cases c14; rfl; exact absurd (hI.2 rfl) (by simp)
              refine wpOpIn_step rfl ?_
              intro K' hK'
              rw [if_pos (by rfl)]
              unfold Oper.wpIn
              refine ⟨by simp [Oper.about], ?_⟩
              go_simp
              exact hK' _ _ ⟨_, _, _, _, _, _, _, _, _, _, _, _, _, _, _, rfl, rfl, rfl, by simp⟩
            · replace hd' := hd' _ rfl
              simp [Region.binds] at hd' hop'
              subst hop'
              repeat (obtain ⟨h_, hd'⟩ := hd'; first | subst h_ | skip)
              try subst hd'
              refine wpOpIn_step rfl ?_
              intro K' hK'
              rw [if_pos (by rfl)]
              unfold Oper.wpIn
              refine ⟨by simp [Oper.about], ?_⟩
              go_simp
              exact hK' _ _ ⟨_, _, _, _, _, _, _, _, _, _, _, _, _, _, _, rfl, rfl, rfl, by simp⟩
          · rintro lm a' w' ⟨c0, c1, c2, c3, c4, c5, c6, c7, c8, c9, c10, c11, c12, c13, c14, rfl, rfl, rfl, hI⟩ hr'
            obtain rfl : c0 = true := by have := ready_none hr' 0 _ rfl (by simp [Region.binds]); simpa using this
            obtain rfl : c1 = true := by have := ready_none hr' 1 _ rfl (by simp [Region.binds]); simpa using this
            obtain rfl : c2 = true := by have := ready_none hr' 2 _ rfl (by simp [Region.binds]); simpa using this
            obtain rfl : c3 = true := by have := ready_none hr' 3 _ rfl (by simp [Region.binds]); simpa using this
            obtain rfl : c4 = true := by have := ready_none hr' 4 _ rfl (by simp [Region.binds]); simpa using this
            obtain rfl : c5 = true := by have := ready_none hr' 5 _ rfl (by simp [Region.binds]); simpa using this
            obtain rfl : c6 = true := by have := ready_none hr' 6 _ rfl (by simp [Region.binds]); simpa using this
            obtain rfl : c7 = true := by have := ready_none hr' 7 _ rfl (by simp [Region.binds]); simpa using this
            obtain rfl : c8 = true := by have := ready_none hr' 8 _ rfl (by simp [Region.binds]); simpa using this
            obtain rfl : c9 = true := by have := ready_none hr' 9 _ rfl (by simp [Region.binds]); simpa using this
            obtain rfl : c10 = true := by have := ready_none hr' 10 _ rfl (by simp [Region.binds]); simpa using this
            obtain rfl : c11 = true := by have := ready_none hr' 11 _ rfl (by simp [Region.binds]); simpa using this
            obtain rfl : c12 = true := by have := ready_none hr' 12 _ rfl (by simp [Region.binds]); simpa using this
            obtain rfl : c13 = true := by have := ready_none hr' 13 _ rfl (by simp [Region.binds]); simpa using this
            obtain rfl : c14 = true := by have := ready_none hr' 14 _ rfl (by simp [Region.binds]); simpa using this
            clear hr' hI
            have y0 : X.cell? ⟨Bx, 0, none⟩ = some (.int .i64 k) := bXX.out.cell 0
            have y1 : X.cell? ⟨Bx, 1, none⟩ = some (.string tt) := bXX.out.cell 1
            have y4 : X.cell? ⟨Bx, 4, none⟩ = some (.bool sp) := bXX.out.cell 4
            have cO2 := cOX.out
            have hne3 : ¬ wr.heap.size = Bx := by omega
            have hne4 : ¬ Bx = wr.heap.size := by omega
            have hXs := HXB.out.size
            have hgY := grown_trans (grown_set X Bx 2 (.int .i64 a1)) (grown_set (X.setCell ⟨Bx, 2, none⟩ (.int .i64 a1)) Bx 3 (.int .i64 (wrap64 (b1 + b2))))
            have hYs := hgY.size
            have hYX : Aside0 (((X.setCell ⟨Bx, 2, none⟩ (.int .i64 a1)).setCell ⟨Bx, 3, none⟩ (.int .i64 (wrap64 (b1 + b2)))).heap.size = X.heap.size) := ⟨by simp⟩
            have bOY := bO1X.out.kept hgY (fun e => by cases e; omega)
            have hrY := own_move hr1X.out (fun g hg => hgY.block g (own_lt hr1X.out g hg) (fun e => hnb (by rw [hg, ← e])))
            have hgY := Aside0.mk hgY
            have bOY := Aside0.mk bOY
            have hrY := Aside0.mk hrY
            obtain ⟨i0, hi0, hz0, hz1, hz2⟩ := info_parts info26
            dsimp only [cond]
            gi_wp2_with (gi_at_builtin; go_must (refine wpListIn_append_full _ rfl _ _ 22 rfl wr.heap.size 26 i0 _ 5 48 Try.underlying22 hi0 hz0 hz1 hz2 rfl (by decide) _ _ _ rfl (hrY.out.alloc _) ⟨X.heap.size, 0, none⟩ 1 1 (tokB ⟨k, tt, a1, wrap64 (b1 + b2), sp⟩).toList rfl rfl (fun j u hj => by have h := cells_new ((X.setCell ⟨Bx, 2, none⟩ (.int .i64 a1)).setCell ⟨Bx, 3, none⟩ (.int .i64 (wrap64 (b1 + b2)))) (tokB ⟨k, tt, a1, wrap64 (b1 + b2), sp⟩) 26 j u hj; rw [hYX.out] at h; exact h) (by simp [tokB, Value.oneCell']) (by unfold maxLen; omega) (by omega) (by have := hB4.out.size; simp; omega) ?_); intro v' w3 hown' hgrow hfull; obtain ⟨g', cap', rfl⟩ := ownsRow_succ hown'; have hgr : (((X.setCell ⟨Bx, 2, none⟩ (.int .i64 a1)).setCell ⟨Bx, 3, none⟩ (.int .i64 (wrap64 (b1 + b2)))).alloc (.cells (tokB ⟨k, tt, a1, wrap64 (b1 + b2), sp⟩) 26)).grownBy w3 v0.ownBlock := ⟨hgrow.os, hgrow.tape, hgrow.output, hgrow.size, hgrow.block⟩; have hfr : ∀ g cap, v0 = .slice (some ⟨g, 0, none⟩) pre.length cap → cap < pre.length + 1 → (((X.setCell ⟨Bx, 2, none⟩ (.int .i64 a1)).setCell ⟨Bx, 3, none⟩ (.int .i64 (wrap64 (b1 + b2)))).alloc (.cells (tokB ⟨k, tt, a1, wrap64 (b1 + b2), sp⟩) 26)).grownBy w3 none := (fun g cap e1 e2 => ⟨(hfull g cap e1 e2).os, (hfull g cap e1 e2).tape, (hfull g cap e1 e2).output, (hfull g cap e1 e2).size, (hfull g cap e1 e2).block⟩); replace hfr := Aside0.mk hfr; replace hgr := Aside0.mk hgr; clear hgrow hfull; obtain ⟨hq1, hq2, hq3, hq4, hq5⟩ := bOY.out.appended (by decide) hrY.out (by have := hB4.out.size; omega) (Nat.le_refl _) hown' hgr.out; have hq1c := hq1.cell; have hq1f := hq1.frozen)
            have hWs := hB4.out.size
            refine ⟨?_, ?_, ⟨_, hq2, ?_, ?_⟩, ?_, ?_⟩
            · have hk0 : KeepsOthers W X := by rw [hX.out]; exact KeepsOthers.alloc _ _
              exact ((hk0.trans ((KeepsOthers.setCell _ _ _).trans (KeepsOthers.setCell _ _ _))).trans hq4).from _
            · intro q hq
              have c1 := hkp.out q hq
              have c0 : q < W.heap.size := by
                rcases hq with rfl | ⟨o, ho, _⟩
                · omega
                · rw [← c1] at ho; exact (Array.getElem?_eq_some_iff.1 ho).1
              have cb : q ≠ Bx := by
                rcases hq with rfl | ⟨o, ho, _⟩
                · omega
                · have := (Array.getElem?_eq_some_iff.1 ho).1; omega
              have c2 := HXB.out.block q c0
              have c3 := hgY.out.block q (by omega) (fun e => cb (by cases e; rfl))
              have c4 := kp_append hrY.out hv1.out hgr.out hfr.out q (by rw [hYX.out]; omega) (fun o ho hown => by
                rcases hq with rfl | ⟨o', ho', hst⟩
                · have := (row_obj hrY.out 0 hown).1; omega
                · rw [c3, c2, c1, ho'] at ho; cases ho; exact hst)
              have cw : q < w3.heap.size := by have := hgr.out.size; simp at this; omega
              have cB : q ≠ wr.heap.size := by
                rcases hq with rfl | ⟨o, ho, hst⟩
                · omega
                · intro e; rw [e, show Wp.heap[wr.heap.size]? = _ from hbp.out] at ho; cases ho; simp [stays] at hst
              exact ((grown_set w3 wr.heap.size 0 _).block q cw (fun e => cB (by cases e; rfl))).trans (c4.trans (c3.trans (c2.trans c1)))
            · rw [List.length_append, List.length_singleton, List.map_append, List.map_cons, List.map_nil, tokCs_snoc, hrel.out]
              exact hq3
            · intro h; simp at h
            · intro p hp
              rcases List.mem_append.1 hp with h | h
              · exact hz.out p h
              · rw [List.mem_singleton] at h; rw [h]
            · exact ((hB4.out.trans (HXB.out.mono hWs)).trans (((Below.refl wr.heap.size X).setCell (p := ⟨Bx, 2, none⟩) (by show wr.heap.size ≤ Bx; omega) _).setCell (p := ⟨Bx, 3, none⟩) (by show wr.heap.size ≤ Bx; omega) _)).trans hq5
        · have he' : (e != 0) = true := bne_iff_ne.mpr he
          gi_wp2
          exact ⟨((KeepsOthers.setCell _ _ _).trans (KeepsOthers.setCell _ _ _)).from _, ⟨rfl, e, he, ⟨pre, ⟨_, rfl⟩, fun a b h => hz (a, b) h⟩, (hE.other (by omega) _).set _⟩, (bO1.set _).other (by omega) _, ((hBw.trans (hB4.mono hBw.size)).setCell (p := ⟨wr.heap.size, 0, none⟩) hBw.size _).setCell (p := ⟨w1.heap.size + 1, 0, none⟩) (by have := HB1.out.size; show w.heap.size ≤ w1.heap.size + 1; omega) _⟩
      case done =>
        rintro D ys W hD hys ⟨⟨v, bO2, hr2, _⟩, hz, hB4⟩ hK
        have cO := bO2.cell
        have hE : Boxed W (w1.heap.size + 1) 31 (.int .i64 0) := (hB4.block _ (by omega)).trans ((HB.out.block _ (by omega)).trans Be0.out)
        have cE := hE.cell
        have hK := Aside0.mk hK
        have hr2 := Aside0.mk hr2
        go_wp2
        go_region
        go_wp2
        refine ⟨by simp, .inl ⟨_, _, rfl, run_takeDeferred (w := W.drew) hK.out, ?_⟩⟩
        refine ⟨_, results_tmp2 rfl _ _ _, v, ?_, ?_, ?_⟩
        · rw [scan_ok (L s) cs ys HC0.out hcs.out (by rw [← hLt.out]; exact hys) hz]; rfl
        · rw [scan_ok (L s) cs ys HC0.out hcs.out (by rw [← hLt.out]; exact hys) hz]
          exact R26_of (by rw [List.length_map]; exact own_less (ownsRow_putObj (W := W.drew) hr2.out _ hK.out rfl) hBw.size)
        · exact (below_drew1 (hBw.trans (hB4.mono hBw.size))).trans (belowK_b (w := w) (Nat.le_refl _) W.drew D _ _ (by have := hBw.size; rw [hs2] at hD; omega) hK.out rfl rfl)
      case stop =>
        rintro D c pre W hD hpre ⟨⟨e, rfl, he, hp, bE⟩, bO2, hB4⟩ hK
        have cO := bO2.cell
        have cE := bE.cell
        have hK := Aside0.mk hK
        refine (wpIn_wide (n := 4)).2 ?_
        go_wp2
        go_region
        go_wp2
        refine ⟨by simp, .inl ⟨_, _, rfl, run_takeDeferred (w := W.drew) hK.out, ?_⟩⟩
        refine ⟨_, results_tmp2 rfl _ _ _, .slice none 0 0, ?_, ?_, ?_⟩
        · rw [scan_err (L s) cs pre e HC0.out hcs.out (by rw [← hLt.out]; exact hpre) he hp]; rfl
        · rw [scan_err (L s) cs pre e HC0.out hcs.out (by rw [← hLt.out]; exact hpre) he hp]
          exact Kd.R_nil _ _ _ _ _
        · exact (below_drew1 hB4).trans (belowK_b (w := w) (Nat.le_refl _) W.drew D _ _ (by have := hBw.size; rw [hs2] at hD; omega) hK.out rfl rfl)
set_option maxHeartbeats 1000000 in
set_option maxRecDepth 100000 in
theorem scan_refused (s : ByteArray) (hc : checkR (L s) ≠ 0) (w : World) :
    Calls Try.prog 56 #[.string s] w fun e w' => ∃ v : Value, e = .returned (.tuple #[v, .int .i64 (checkR (L s))]) ∧ Kd.R k26 26 w' w.heap.size (fun _ => True) v [] ∧ Below w.heap.size w w' := by
  have HCH : Aside0 (phys_Chars.f s = some ([], checkR (L s))) := ⟨by unfold phys_Chars.f charsR; rw [if_neg hc]⟩
  have hcd : (checkR (L s) != 0) = true := bne_iff_ne.mpr hc
  clear hc
  generalize checkR (L s) = r at *
  go_enter Try.func56, Try.ntmps56
  go_wp2_with fail
  refine wp_scope_straight ?_
  go_wp2_with (go_at_call 41; refine (phys_Chars.calls s [] r _ HCH.out).mono ?_; rintro e w1 ⟨vl, rfl, hR1, hB1⟩; obtain ⟨Al, cl, rfl⟩ := Kd.R_slice hR1; have HB1 := Aside0.mk hB1; clear hR1 hB1)
  go_region
  all_goals
    go_wp2
    refine ⟨by simp, ?_⟩
    refine ⟨_, results_tmp2 rfl _ _ _, .slice none 0 0, rfl, Kd.R_nil _ _ _ _ _, ?_⟩
    exact below_drew1 (below_alloc (below_alloc HB1.out _) _)
/-- scan.Scan answers scanR. (HM: the library's variable holds a number; it is found in the context.) -/
theorem scan_Scan.calls (a0 : ByteArray) (r1 : List S26) (r2 : Int) (w : World) (h : scan_Scan.f a0 = some (r1, r2)) (HM : HasMax w := by first | assumption | exact max_below (Aside0.out (by assumption)) (by assumption)) :
    Calls Try.prog 56 #[.string a0] w fun e w' => ∃ v0_ : Value, e = .returned (.tuple #[v0_, .int .i64 r2]) ∧ Kd.R k26 26 w' w.heap.size (fun _ => True) v0_ r1 ∧ Below w.heap.size w w' := by
  have h' := Option.some.inj h
  clear h
  by_cases hc : checkR (L a0) = 0
  · have := scan_main a0 hc w HM
    rw [h'] at this
    exact this
  · have := scan_refused a0 hc w
    unfold scanR at h'
    rw [if_neg hc] at h'
    obtain ⟨rfl, rfl⟩ := Prod.mk.inj h'
    exact this
end Go.Proofs.Ytonfmnohmigjpaa.P
