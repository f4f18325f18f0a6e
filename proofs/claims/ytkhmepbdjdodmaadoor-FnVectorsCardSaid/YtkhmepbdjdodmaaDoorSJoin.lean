/-
  Contract of the reference's Join.
-/
import Derived.Test.YtkhmepbdjdodmaaDoorToStr
import Derived.Lib.AppendStr
import Derived.Lib.AppendIntMem
import Derived.Lib.Join
namespace Go.Proofs.YtkhmepbdjdodmaaDoor
open Go.RowKit

namespace Pl
def joinTo (xs : List ByteArray) (sep : ByteArray) : Nat → List UInt8
  | 0 => []
  | j + 1 => joinTo xs sep j ++ (if 0 < j then sep.toList else []) ++ (xs.getD j ⟨#[]⟩).toList
theorem joinTo_tail (x : ByteArray) (r : List ByteArray) (sep : ByteArray) : ∀ j, j ≤ r.length → joinTo (x :: r) sep (j + 1) = x.toList ++ Lib.joinTail sep.toList ((r.take j).map ByteArray.toList) := by
  intro j
  induction j with
  | zero => intro _; simp [joinTo, Lib.joinTail]
  | succ j ih =>
    intro h
    rw [joinTo, ih (by omega), if_pos (by omega), List.take_succ_eq_append_getElem (show j < r.length by omega)]
    rw [show (x :: r).getD (j + 1) ⟨#[]⟩ = r[j]'(by omega) from by rw [List.getD, List.getElem?_cons_succ, List.getElem?_eq_getElem (show j < r.length by omega)]; rfl]
    simp only [Lib.joinTail, List.map_append, List.flatten_append, List.map_cons, List.map_nil, List.flatten_cons, List.flatten_nil, List.append_nil, List.append_assoc]
theorem joinTo_all (xs : List ByteArray) (sep : ByteArray) : joinTo xs sep xs.length = Lib.join (xs.map ByteArray.toList) sep.toList := by
  cases xs with
  | nil => rfl
  | cons x r =>
    rw [List.length_cons, joinTo_tail x r sep r.length (Nat.le_refl _), List.map_cons, Lib.join_cons, List.take_length]
theorem joinTo_len (xs : List ByteArray) (sep : ByteArray) (M : Nat) (hs : sep.size ≤ M) (hx : ∀ x ∈ xs, x.size ≤ M) : ∀ j, j ≤ xs.length → (joinTo xs sep j).length ≤ j * (2 * M) := by
  intro j
  induction j with
  | zero => intro _; simp [joinTo]
  | succ j ih =>
    intro h
    have h1 := ih (by omega)
    have hg : xs.getD j ⟨#[]⟩ = xs[j]'(by omega) := by rw [List.getD, List.getElem?_eq_getElem (show j < xs.length by omega)]; rfl
    have h2 := hx _ (List.getElem_mem (show j < xs.length by omega))
    rw [joinTo, hg, List.length_append, List.length_append, size_toList, Nat.succ_mul]
    have h3 : (if 0 < j then sep.toList else []).length ≤ M := by
      split
      · rw [size_toList]
        exact hs
      · exact Nat.zero_le _
    omega
end Pl
end Go.Proofs.YtkhmepbdjdodmaaDoor
