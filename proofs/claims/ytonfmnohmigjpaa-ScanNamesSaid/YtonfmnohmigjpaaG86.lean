/- scan.tokens as an iterator value. -/
import Derived.Test.YtonfmnohmigjpaaG105
namespace Go.Proofs.Ytonfmnohmigjpaa.P
open Go.RowKit Go.Shelf Go.Proofs.YtonfmnohmigjpaaW.PrintWords Go.Proofs.YtonfmnohmigjpaaW.PrintLast
attribute [local go_sem] Oper.semAt_some
set_option maxHeartbeats 1000000 in
/-- tokens(s): the text is boxed; the function value captures the box. -/
theorem tokens_in (n : Nat) (s : ByteArray) (w : World) :
    CallsIn Fence.wide n Try.prog 86 #[.string s] w fun e w' => e = .returned (.func (.func 105) #[] #[.pointer (some ⟨w.heap.size, 0, none⟩)]) ∧ w' = w.alloc (.cells #[.string s] 9) := by
  refine callsIn_of_wp Try.func86 rfl trivial ?_ rfl
  simp only [Try.ntmps86, List.size_toArray, List.length_cons, List.length_nil, Nat.reduceAdd, Nat.reduceSub, Array.replicate_succ, Array.replicate_zero, List.push_toArray, List.append_toArray, List.nil_append, List.cons_append]
  gi_wp2
  go_ret
  exact ⟨rfl, rfl⟩
/-- What tokens(s) hands back gives all of the text's tokens, in order; or the first ones, where a round has said 'no more'. -/
theorem tokens_seq (n : Nat) (hn : 1 ≤ n) (Bn : Nat) (s : ByteArray) (hs : s.size ≤ 1000000) (w : World) (hc : Boxed w Bn 9 (.string s)) (hm : HasMax w) :
    SeqT Fence.wide n Try.prog 105 #[.pointer (some ⟨Bn, 0, none⟩)] encT 9 (fun ys => ys = toksF 0 false [] (L s)) (fun pre => pre <+: toksF 0 false [] (L s)) (fun pre x => pre ++ [x] <+: toksF 0 false [] (L s)) w := fun l J Jx W hW hJ _ hY h0 =>
  tokens1_in n hn l Bn W.heap.size s hs J Jx hJ hY W (Nat.le_refl _) (Nat.lt_of_lt_of_le hc.lt hW.size) ((hW.block Bn hc.lt).trans hc) (max_below hW hm) h0
end Go.Proofs.Ytonfmnohmigjpaa.P
