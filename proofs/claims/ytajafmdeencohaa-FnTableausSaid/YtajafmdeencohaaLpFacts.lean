/-
  What a valid LP is; a row of integers that grows.
-/
import Derived.Test.YtajafmdeencohaaLpValid
namespace Go.Proofs.Ytajafmdeencohaa
open Go.RowKit

namespace Pl
theorem lpFacts {acn arn : Nat} {aRN : Nat → Nat} {aRV : Nat → Nat → Int} {abn : Nat} {aBV : Nat → Int} {aCV : Fr} (h : validLP acn arn aRN aRV abn aBV aCV = true) :
    acn ≤ 70 ∧ arn ≤ 8 ∧ abn = arn ∧ (∀ i, i < arn → aRN i = acn ∧ ∀ j, j < acn → -5000 ≤ aRV i j ∧ aRV i j ≤ 5000) ∧ ∀ j, j < abn → -5000 ≤ aBV j ∧ aBV j ≤ 5000 := by
  simp only [validLP, Bool.and_eq_true, decide_eq_true_eq, beq_iff_eq] at h
  obtain ⟨⟨⟨⟨⟨h1, h2⟩, h3⟩, h4⟩, h5⟩, h6⟩ := h
  refine ⟨h1, h2, h3, fun i hi => ?_, fun j hj => within_iff.1 (allB_at h4 j hj)⟩
  have := allB_at h6 i hi
  simp only [Bool.and_eq_true, beq_iff_eq] at this
  exact ⟨this.1, fun j hj => within_iff.1 (allB_at this.2 j (by omega))⟩
end Pl
theorem cellsI_snoc (V : Nat → Int) (n : Nat) : cellsI V n ++ [.int .i64 (V n)] = cellsI V (n + 1) := by
  simp [cellsI, listI, List.range_succ]
theorem cellsI_nil (V : Nat → Int) : cellsI V 0 = [] := rfl
end Go.Proofs.Ytajafmdeencohaa
