/- Arguments that can be read as data are values of the kinds that the printed contracts speak of. -/
import Derived.Test.YtonfmnohmigjpaaF0
import Derived.ChangeSlices
import Derived.SliceStrings
import Derived.SizedLaws
import Derived.OpenShut
import Derived.Deep.Slices
namespace Go.Proofs.Ytonfmnohmigjpaa.P
open Go.RowKit Go.Proofs.YtonfmnohmigjpaaW.PrintWords Go.Proofs.YtonfmnohmigjpaaW.PrintLast Go.Proofs.YtonfmnohmigjpaaW.PrintMore
open Go.ChangeShapes Go.WideShapes

/-! ### Arguments that are read as data: opened as values of the kinds -/
section
variable {H : Type} {enc : TypeId × Value → H} {P : Program} {w : World} {base : Nat} {spare : Nat → Bool} {held : Bool}

/-- What can be read as data at type t is of the kind d, and good. -/
def Opens {α : Type} (enc : TypeId × Value → H) (P : Program) (w : World) (base : Nat) (spare : Nat → Bool) (held : Bool) (d : Kd α) (t : TypeId) (G : α → Prop) : Prop :=
  P.cellsOf t = d.sz ∧ ∀ fuel cs x, DataW.trod enc P w base spare held fuel t cs = some x → (∀ n ∈ x.1.weights P t, n ≤ reachBytes) → ∃ a, d.K w a cs ∧ G a

theorem opens_int {t : TypeId} {k : IntKind} (ht : P.underlying t = some (.int k)) (hc : P.cellsOf t = 1) : Opens enc P w base spare held (Kd.int k) t (fun a => (Lit.int k a).wf = true) := by
  refine ⟨hc, fun fuel cs x h _ => ?_⟩
  obtain ⟨n, rfl, _, hw⟩ := DataW.trod_int ht h
  exact ⟨n, rfl, hw⟩
theorem opens_bool {t : TypeId} (ht : P.underlying t = some .bool) (hc : P.cellsOf t = 1) : Opens enc P w base spare held Kd.bool t (fun _ => True) := by
  refine ⟨hc, fun fuel cs x h _ => ?_⟩
  obtain ⟨n, rfl, _⟩ := DataW.trod_bool ht h
  exact ⟨n, rfl, trivial⟩
theorem opens_string {t : TypeId} (ht : P.underlying t = some .string) (hc : P.cellsOf t = 1) : Opens enc P w base spare held Kd.string t (fun s => s.size ≤ 140737488351232) := by
  refine ⟨hc, fun fuel cs x h hw => ?_⟩
  obtain ⟨s, rfl, rfl, _⟩ := DataW.trod_string ht h
  refine ⟨s, rfl, ?_⟩
  have := hw s.data.toList.length (by simp [DataW.weights])
  rw [Array.length_toList] at this
  exact this
theorem weightsAll_mem {t : TypeId} : ∀ {l : List (DataW H)} {y : DataW H}, y ∈ l → ∀ n ∈ y.weights P t, n ∈ DataW.weightsAll P t l
  | z :: l, y, hy, n, hn => by
    unfold DataW.weightsAll
    rcases List.mem_cons.1 hy with rfl | hy
    · exact List.mem_append_left _ hn
    · exact List.mem_append_right _ (weightsAll_mem hy n hn)

theorem C_of_trod {α : Type} {d : Kd α} {t e : TypeId} {G : α → Prop} {bytes : Nat} (ht : P.underlying t = some (.slice e)) (hb : P.bytesOf e = bytes) (hd : Opens enc P w base spare held d e G) {fuel : Nat} {cs : List Value} {x : DataW H × List MemPlace}
    (h : DataW.trod enc P w base spare held fuel t cs = some x) (hw : ∀ n ∈ x.1.weights P t, n ≤ reachBytes) :
    ∃ (A : Option Addr) (c : Nat) (l : List α), cs = [.slice A l.length c] ∧ l.length ≤ c ∧ d.C w A l.length l ∧ l.length * bytes ≤ 140737488351232 ∧ ∀ a ∈ l, G a := by
  rcases DataW.trod_slice ht h with ⟨rfl, _⟩ | ⟨a, len, cap, elems, rest, n, _, rfl, rfl, _, hl, hm, hlen, hel, _, _⟩
  · exact ⟨none, 0, [], rfl, Nat.le_refl _, ⟨rfl, by simp, fun h => by simp at h⟩, by simp, fun a ha => by simp at ha⟩
  · have hwl : len * bytes ≤ 140737488351232 := by
      have := hw _ (by simp only [DataW.weights, ht]; exact List.mem_cons_self)
      rw [List.length_map, List.length_map, hlen, hb] at this
      exact Nat.le_trans (Nat.mul_le_mul_right _ (by omega)) this
    have each : ∀ i, i < len → ∃ (y : α) (c : List Value), c.length = d.sz ∧ d.K w y c ∧ G y ∧ ∀ j u, c[j]? = some u → w.cell? (a.add (i * d.sz + j)) = some u := by
      intro i hi
      have h1 := hel i hi
      obtain ⟨y, hy⟩ : ∃ y, elems[i]? = some y := ⟨_, List.getElem?_eq_getElem (by omega)⟩
      rw [hy, Option.bind_eq_some_iff] at h1
      obtain ⟨c, hc, hy'⟩ := h1
      have hmem : y ∈ elems := List.mem_of_getElem? hy
      obtain ⟨z, hz, hg⟩ := hd.2 _ _ _ hy' (fun q hq => hw q (by
        simp only [DataW.weights, ht]
        exact List.mem_cons_of_mem _ (List.mem_append_left _ (weightsAll_mem (List.mem_map_of_mem hmem) q hq))))
      rw [hd.1] at hc
      obtain ⟨_, hcl, hat⟩ := World.cells?_some hc
      refine ⟨z, c, hcl, hz, hg, fun j u hu => ?_⟩
      have hj : j < d.sz := by have := (List.getElem?_eq_some_iff.1 hu).1; omega
      have := hat j hj
      rw [hu] at this
      have e1 : a.add (i * d.sz + j) = (a.add (i * d.sz)).add j := (Go.Deep.add_add a _ _).symm
      rw [e1]
      exact this
    -- the list of what the elements are
    have hlist : ∀ m, m ≤ len → ∃ l : List α, l.length = m ∧ (∀ z ∈ l, G z) ∧ ∀ j p, l[j]? = some p → ∃ c, c.length = d.sz ∧ d.K w p c ∧ ∀ i u, c[i]? = some u → w.cell? (a.add (j * d.sz + i)) = some u := by
      intro m
      induction m with
      | zero => intro _; exact ⟨[], rfl, fun z hz => by simp at hz, fun j p hj => by simp at hj⟩
      | succ m ih =>
        intro hm'
        obtain ⟨l, hl1, hl2, hl3⟩ := ih (by omega)
        obtain ⟨z, c, h1, h2, h3, h4⟩ := each m (by omega)
        refine ⟨l ++ [z], by simp [hl1], fun q hq => ?_, fun j p hj => ?_⟩
        · rcases List.mem_append.1 hq with hq | hq
          · exact hl2 q hq
          · rw [List.mem_singleton.1 hq]; exact h3
        · by_cases hjl : j < l.length
          · rw [List.getElem?_append_left hjl] at hj
            exact hl3 j p hj
          · have : j = m := by
              have := (List.getElem?_eq_some_iff.1 hj).1
              rw [List.length_append, List.length_singleton] at this
              omega
            subst this
            rw [List.getElem?_append_right (by omega), hl1, Nat.sub_self] at hj
            obtain rfl : z = p := by simpa using hj
            exact ⟨c, h1, h2, h4⟩
    obtain ⟨l, hl1, hl2, hl3⟩ := hlist len (Nat.le_refl _)
    refine ⟨some a, cap, l, by rw [hl1], by omega, ⟨rfl, by unfold maxLen at hm; omega, fun _ => ⟨a, rfl, hl3⟩⟩, by rw [hl1]; exact hwl, hl2⟩

theorem opens_slice {α : Type} {d : Kd α} {t e : TypeId} {G : α → Prop} {bytes : Nat} (ht : P.underlying t = some (.slice e)) (hb : P.bytesOf e = bytes) (hc : P.cellsOf t = 1) (hd : Opens enc P w base spare held d e G) :
    Opens enc P w base spare held (Kd.slice e d) t (fun l => l.length * bytes ≤ 140737488351232 ∧ ∀ a ∈ l, G a) := by
  refine ⟨hc, fun fuel cs x h hw => ?_⟩
  obtain ⟨A, c, l, rfl, h1, h2, h3, h4⟩ := C_of_trod ht hb hd h hw
  exact ⟨l, ⟨A, c, rfl, h1, h2⟩, h3, h4⟩

/-- A field of a struct. -/
theorem field_of {α : Type} {d : Kd α} {t : TypeId} {fs : Array Field} {G : α → Prop} (ht : P.underlying t = some (.struct fs)) {fuel : Nat} {cs : List Value} {x : DataW H × List MemPlace}
    (h : DataW.trod enc P w base spare held fuel t cs = some x) (hw : ∀ n ∈ x.1.weights P t, n ≤ reachBytes) (i : Nat) (f : Field) (hf : fs[i]? = some f) (hd : Opens enc P w base spare held d f.type G) :
    ∃ a, d.K w a ((cs.drop f.offset).take d.sz) ∧ G a := by
  obtain ⟨xs, n, _, rfl, hlen, hxl, hat⟩ := DataW.trod_struct ht h
  have h1 := hat i f hf
  have hi : i < xs.length := by rw [hxl]; exact (Array.getElem?_eq_some_iff.1 hf).1
  obtain ⟨y, hy⟩ : ∃ y, xs[i]? = some y := ⟨_, List.getElem?_eq_getElem hi⟩
  rw [hy, hd.1] at h1
  refine hd.2 _ _ _ h1 (fun q hq => hw q ?_)
  simp only [DataW.weights, ht]
  refine DataW.weights_mem_each (j := i) (t := f.type) (d := y.1) ?_ ?_ q hq
  · rw [List.getElem?_map, Array.getElem?_toList, hf]; rfl
  · rw [List.getElem?_map, hy]; rfl
theorem struct_len {t : TypeId} {fs : Array Field} (ht : P.underlying t = some (.struct fs)) {fuel : Nat} {cs : List Value} {x : DataW H × List MemPlace}
    (h : DataW.trod enc P w base spare held fuel t cs = some x) : cs.length = P.cellsOf t := by
  obtain ⟨xs, n, _, rfl, hlen, hxl, hat⟩ := DataW.trod_struct ht h
  exact hlen
end

section
variable {H : Type} {enc : TypeId × Value → H} {w : World} {base : Nat} {spare : Nat → Bool} {held : Bool}
def Good26 (x : S26) : Prop := (Lit.int .i64 x.f0).wf = true ∧ x.f1.size ≤ 140737488351232 ∧ (Lit.int .i64 x.f2).wf = true ∧ (Lit.int .i64 x.f3).wf = true
theorem opens_26 : Opens enc Try.prog w base spare held k26 26 Good26 := by
  refine ⟨by kernel_rfl, fun fuel cs x h hw => ?_⟩
  have hl : cs.length = 5 := (struct_len Try.underlying26 h).trans (by kernel_rfl)
  obtain ⟨a0, h0, g0⟩ := field_of Try.underlying26 h hw 0 _ rfl (opens_int (t := 3) Try.underlying3 (by kernel_rfl))
  obtain ⟨a1, h1, g1⟩ := field_of Try.underlying26 h hw 1 _ rfl (opens_string (t := 9) Try.underlying9 (by kernel_rfl))
  obtain ⟨a2, h2, g2⟩ := field_of Try.underlying26 h hw 2 _ rfl (opens_int (t := 3) Try.underlying3 (by kernel_rfl))
  obtain ⟨a3, h3, g3⟩ := field_of Try.underlying26 h hw 3 _ rfl (opens_int (t := 3) Try.underlying3 (by kernel_rfl))
  obtain ⟨a4, h4, g4⟩ := field_of Try.underlying26 h hw 4 _ rfl (opens_bool (t := 4) Try.underlying4 (by kernel_rfl))
  match cs, hl with
  | [c0, c1, c2, c3, c4], _ =>
    refine ⟨⟨a0, a1, a2, a3, a4⟩, ?_, g0, g1, g2, g3⟩
    obtain rfl : c0 = _ := List.singleton_inj.1 h0
    obtain rfl : c1 = _ := List.singleton_inj.1 h1
    obtain rfl : c2 = _ := List.singleton_inj.1 h2
    obtain rfl : c3 = _ := List.singleton_inj.1 h3
    obtain rfl : c4 = _ := List.singleton_inj.1 h4
    exact k26_mk w ⟨a0, a1, a2, a3, a4⟩
def Good49 (x : S49) : Prop := x.f1.size ≤ 140737488351232 ∧ x.f2.length * 48 ≤ 140737488351232 ∧ ∀ t ∈ x.f2, Good26 t
theorem opens_49 : Opens enc Try.prog w base spare held k49 49 Good49 := by
  refine ⟨by kernel_rfl, fun fuel cs x h hw => ?_⟩
  have hl : cs.length = 3 := (struct_len Try.underlying49 h).trans (by kernel_rfl)
  obtain ⟨a0, h0, _⟩ := field_of Try.underlying49 h hw 0 _ rfl (opens_bool (t := 4) Try.underlying4 (by kernel_rfl))
  obtain ⟨a1, h1, g1⟩ := field_of Try.underlying49 h hw 1 _ rfl (opens_string (t := 9) Try.underlying9 (by kernel_rfl))
  obtain ⟨a2, ⟨A2, q2, h2, l2, r2⟩, g2, m2⟩ := field_of Try.underlying49 h hw 2 _ rfl (opens_slice (t := 22) (e := 26) (bytes := 48) Try.underlying22 (by kernel_rfl) (by kernel_rfl) opens_26)
  match cs, hl with
  | [c0, c1, c2], _ =>
    refine ⟨⟨a0, a1, a2⟩, ?_, g1, g2, m2⟩
    obtain rfl : c0 = _ := List.singleton_inj.1 h0
    obtain rfl : c1 = _ := List.singleton_inj.1 h1
    obtain rfl : c2 = _ := List.singleton_inj.1 h2
    exact k49_mk w ⟨a0, a1, a2⟩ l2 r2
end
end Go.Proofs.Ytonfmnohmigjpaa.P
