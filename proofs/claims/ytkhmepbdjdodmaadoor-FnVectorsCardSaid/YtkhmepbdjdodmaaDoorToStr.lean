/-
  Contract of the laws' toStringS: a copy of a slice of texts.
-/
import Derived.Test.YtkhmepbdjdodmaaDoorOwn2
import Derived.Test.YtkhmepbdjdodmaaDoorSplit
namespace Go.Proofs.YtkhmepbdjdodmaaDoor
open Go.RowKit

/-- what has been copied after j rounds -/
def strTo (xs : List ByteArray) (j : Nat) : List Value := (xs.take j).map Value.string ++ List.replicate (xs.length - j) (.string ⟨#[]⟩)
theorem strTo_zero (xs : List ByteArray) : strTo xs 0 = List.replicate xs.length (.string ⟨#[]⟩) := by simp [strTo]
theorem strTo_all (xs : List ByteArray) : strTo xs xs.length = xs.map Value.string := by simp [strTo]
theorem strTo_set (xs : List ByteArray) (j : Nat) (h : j < xs.length) : (strTo xs j).set j (.string xs[j]) = strTo xs (j + 1) := by
  unfold strTo
  rw [List.set_append_right _ _ (by simp; omega), show (List.map Value.string (xs.take j)).length = j by simp; omega, Nat.sub_self, show xs.length - j = (xs.length - (j + 1)) + 1 by omega, List.replicate_succ, List.set_cons_zero,
    List.take_succ_eq_append_getElem h, List.map_append, List.append_assoc]
  rfl

end Go.Proofs.YtkhmepbdjdodmaaDoor
