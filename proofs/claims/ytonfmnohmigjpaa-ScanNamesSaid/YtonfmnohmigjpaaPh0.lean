/- Bytes of a text, and small laws. -/
import Derived.Test.YtonfmnohmigjpaaK0
namespace Go.Proofs.Ytonfmnohmigjpaa.P
open Go.RowKit Go.Proofs.YtonfmnohmigjpaaW.PrintWords Go.Proofs.YtonfmnohmigjpaaW.PrintLast

/-- A text's bytes. -/
def L (s : ByteArray) : List UInt8 := s.data.toList
theorem L_length (s : ByteArray) : (L s).length = s.size := Array.length_toList
theorem L_mk (l : List UInt8) : L ⟨l.toArray⟩ = l := by simp [L]
theorem size_mk (l : List UInt8) : (⟨l.toArray⟩ : ByteArray).size = l.length := List.size_toArray
theorem mk_L (s : ByteArray) : (⟨(L s).toArray⟩ : ByteArray) = s := by cases s; simp [L]
theorem toList_L (s : ByteArray) : s.toList = L s := ByteArray.toList_eq s
/-- The byte at a place (0 behind the end). -/
def at_ (s : ByteArray) (i : Nat) : UInt8 := (L s).getD i 0
theorem btA (s : ByteArray) (i : Nat) : bt s (i : Int) = ((at_ s i).toNat : Int) := by
  unfold bt at_ L
  simp only [Int.toNat_natCast]
  split
  · rename_i h
    rw [List.getD_eq_getElem?_getD, List.getElem?_eq_getElem (show i < s.data.toList.length by rw [Array.length_toList]; exact h)]
    rfl
  · rename_i h
    rw [List.getD_eq_getElem?_getD, List.getElem?_eq_none (show s.data.toList.length ≤ i by rw [Array.length_toList]; exact Nat.le_of_not_lt h)]
    rfl
theorem drop_at (s : ByteArray) (i : Nat) (h : i < s.size) : (L s).drop i = at_ s i :: (L s).drop (i + 1) := by
  have h' : i < (L s).length := by rw [L_length]; exact h
  rw [List.drop_eq_getElem_cons h']
  congr 1
  simp [at_, List.getD_eq_getElem?_getD, h']
theorem u8_eq (a : UInt8) (z : Int) (n : Nat) (hz : z = (n : Int)) (h : n < 256) : ((a.toNat : Int) = z) ↔ a = UInt8.ofNat n := by
  subst hz
  constructor
  · intro e
    apply UInt8.toNat_inj.1
    simp
    omega
  · rintro rfl
    simp
    omega

theorem w64_add (i n k : Nat) (h : i ≤ n) (hn : n ≤ 140737488351232) (hk : k ≤ 1000) : wrap64 ((i : Int) + (k : Int)) = ((i + k : Nat) : Int) := by
  unfold wrap64; omega
theorem Ev.steps1 {α : Type} {g f : Nat → Option α} {r : α} (h : ∀ k, g (k + 1) = f k) (k : Ev f r) : Ev g r := Ev.step h k
theorem Ev.done1 {α : Type} {g : Nat → Option α} {r : α} (h : ∀ k, g (k + 1) = some r) : Ev g r := Ev.step h (Ev.now r)
theorem Ev.two {α : Type} {g f : Nat → Option α} {r : α} (h : ∀ k, g (k + 2) = f k) (k : Ev f r) : Ev g r := by
  obtain ⟨K, k⟩ := k
  refine ⟨K + 2, fun m hm => ?_⟩
  obtain ⟨q, rfl⟩ : ∃ q, m = q + 2 := ⟨m - 2, by omega⟩
  rw [h]
  exact k q (by omega)
theorem L_extract (s : ByteArray) (i j : Nat) : L (s.extract i j) = ((L s).drop i).take (j - i) := by
  unfold L
  rw [ByteArray.data_extract, Array.toList_extract, List.extract_eq_take_drop]
theorem head_drop (s : ByteArray) (i : Nat) : ((L s).drop i).head? = if i < s.size then some (at_ s i) else none := by
  by_cases h : i < s.size
  · rw [if_pos h, drop_at s i h]; rfl
  · rw [if_neg h, List.drop_eq_nil_of_le (by rw [L_length]; omega)]; rfl
theorem size_extract (s : ByteArray) (i : Nat) (h : i ≤ s.size) : (s.extract i s.size).size = s.size - i := by
  rw [← L_length, L_extract, List.length_take, List.length_drop, L_length]
  omega
theorem get_at (s : ByteArray) (i : Nat) (h : i < s.size) : (s[i]'h) = at_ s i := by
  unfold at_ L
  rw [List.getD_eq_getElem?_getD, List.getElem?_eq_getElem (show i < s.data.toList.length by rw [Array.length_toList]; exact h)]
  rfl
theorem L_app (a b : ByteArray) : L (a ++ b) = L a ++ L b := by unfold L; rw [ByteArray.data_append, Array.toList_append]
end Go.Proofs.Ytonfmnohmigjpaa.P
