/- A region that leaves its order open, by an invariant over what has been done: each operation is walked once. -/
import Derived.OrdersIn
namespace Go.Proofs.Ytonfmnohmigjpaa.P
open Go

def openN (l : Array Bool) : Nat := l.toList.countP (fun b => !b)
theorem ready_open {md : Region.Mode} {ops : Array Oper} {l : Array Bool} {i : Nat} (h : i ∈ Region.ready md ops l) : ∃ hi : i < l.size, l[i] = false := by
  unfold Region.ready at h
  have h2 := (List.mem_filter.1 h).2
  rw [Bool.and_eq_true] at h2
  have h3 := h2.1
  rw [Array.getD_eq_getD_getElem?] at h3
  by_cases hi : i < l.size
  · refine ⟨hi, ?_⟩
    rw [Array.getElem?_eq_getElem hi] at h3
    simpa using h3
  · rw [Array.getElem?_eq_none (by omega)] at h3
    simp at h3
theorem ready_deps {md : Region.Mode} {ops : Array Oper} {l : Array Bool} {i : Nat} (h : i ∈ Region.ready md ops l) : ∀ o, ops[i]? = some o → o.after.all (fun e => !Region.binds md e || l.getD e.on false) = true := by
  intro o ho
  unfold Region.ready at h
  have h2 := (List.mem_filter.1 h).2
  rw [Bool.and_eq_true, ho] at h2
  exact h2.2
theorem ready_none {md : Region.Mode} {ops : Array Oper} {l : Array Bool} (h : Region.ready md ops l = []) (i : Nat) (o : Oper) (ho : ops[i]? = some o) (hd : o.after.all (fun e => !Region.binds md e || l.getD e.on false) = true) : l.getD i true = true := by
  cases hb : l.getD i true with
  | true => rfl
  | false =>
    have hi : i < ops.size := (Array.getElem?_eq_some_iff.1 ho).1
    have : i ∈ Region.ready md ops l := by
      unfold Region.ready
      refine List.mem_filter.2 ⟨List.mem_range.2 hi, ?_⟩
      rw [hb, ho]
      exact hd
    rw [h] at this
    simp at this
theorem openN_set {l : Array Bool} {i : Nat} (hi : i < l.size) (h : l[i] = false) : openN (l.setIfInBounds i true) + 1 = openN l := by
  unfold openN
  rw [Array.toList_setIfInBounds, List.countP_set (by simpa using hi)]
  have h1 : (l.toList[i]'(by simpa using hi)) = false := by simpa using h
  have h2 : 0 < l.toList.countP (fun b => !b) := List.countP_pos_iff.2 ⟨_, List.getElem_mem (by simpa using hi), by rw [h1]; rfl⟩
  rw [h1]
  show l.toList.countP (fun b => !b) - 1 + 0 + 1 = l.toList.countP (fun b => !b)
  omega
theorem region_inv {F : Fence} {n : Nat} {P : Program} {ops : Array Oper} {Q : Exit → Act → World → Prop} {id : Nat} {a : Act} {w : World} (hm : P.follows .mixedOrders = true) (Inv : Array Bool → Act → World → Prop)
    (h0 : Inv (Array.replicate ops.size false) a { w with drawn := w.drawn + 1 })
    (hstep : ∀ l a w i, Inv l a w → i ∈ Region.ready .any ops l → wpOpIn F n P ops Q i (fun a' w' => Inv (l.setIfInBounds i true) a' w') a w)
    (hend : ∀ l a w, Inv l a w → Region.ready .any ops l = [] → Q .normal a w) : (Code.region id ops true).wpIn F n P Q a w := by
  refine wpIn_region_any hm ?_
  have key : ∀ fuel l a w, openN l ≤ fuel → Inv l a w → wpAnyIn F n P .any ops Q fuel l a w := by
    intro fuel
    induction fuel with
    | zero =>
      intro l a w hc hi
      have hr : Region.ready .any ops l = [] := by
        rw [List.eq_nil_iff_forall_not_mem]
        intro i h
        obtain ⟨h1, h2⟩ := ready_open h
        have := openN_set h1 h2
        omega
      exact ⟨hr, hend _ _ _ hi hr⟩
    | succ k ih =>
      intro l a w hc hi
      refine ⟨fun hr => hend _ _ _ hi hr, fun i hm => wpOpIn_mono (fun a' w' h => ih _ _ _ ?_ h) (hstep l a w i hi hm)⟩
      obtain ⟨h1, h2⟩ := ready_open hm
      have := openN_set h1 h2
      omega
  refine key _ _ _ _ ?_ h0
  unfold openN
  exact Nat.le_trans List.countP_le_length (by simp)
end Go.Proofs.Ytonfmnohmigjpaa.P
