/-
  Contracts of the laws' eqIntS (two slices that hold the same), markIntS (a slice of the call's own) and heldIntS.
-/
import Derived.Test.YtkhmepbdjdodmaaDoorChecked
import Derived.Test.YtkhmepbdjdodmaaDoorOwn
import Derived.WalkLawsBesides
import Derived.Deep.QuietTactic
import Derived.BigQuiet
import Derived.Outline
import Derived.Lib.Hide
namespace Go.Proofs.YtkhmepbdjdodmaaDoor
open Go.RowKit

def marks (k : Int) (n : Nat) : List Value := (List.range n).map fun i : Nat => Value.int .i64 (k + (i : Int))
theorem marks_at (k : Int) (n j : Nat) (h : j < n) : (marks k n)[j]? = some (.int .i64 (k + j)) := by simp [marks, h]
theorem marks_length (k : Int) (n : Nat) : (marks k n).length = n := by simp [marks]
/-- what has been marked after j rounds -/
def markTo (xs : List Value) (k : Int) (j : Nat) : List Value := marks k j ++ xs.drop j
theorem markTo_zero (xs : List Value) (k : Int) : markTo xs k 0 = xs := by simp [markTo, marks]
theorem markTo_set (xs : List Value) (k : Int) (j : Nat) (h : j < xs.length) : (markTo xs k j).set j (.int .i64 (k + j)) = markTo xs k (j + 1) := by
  unfold markTo
  rw [List.set_append_right _ _ (by rw [marks_length]; omega), marks_length, Nat.sub_self, List.drop_eq_getElem_cons h, List.set_cons_zero]
  simp [marks, List.range_succ]
theorem markTo_all (xs : List Value) (k : Int) : markTo xs k xs.length = marks k xs.length := by simp [markTo]

theorem only_setCell {a w : World} {row : Option Nat} (h : a.grownBy w row) {p : Addr} (hp : row = some p.block) (u : Value) : a.grownBy (w.setCell p u) row :=
  ⟨h.os, h.tape, h.output, by simpa [World.setCell] using h.size, fun i hi hne => (Below.heap_setCell w p u i (by
    rintro rfl
    exact hne hp.symm)).trans (h.block i hi hne)⟩

theorem below_drewN' {B : Nat} {a w : World} (h : Below B a w) (n : Nat) : Below B a (w.drewN n) := ⟨h.os, h.tape, h.output, h.size, h.block⟩

end Go.Proofs.YtkhmepbdjdodmaaDoor
