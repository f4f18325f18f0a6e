/-
  Contracts of the laws' markRatS (a slice of the call's own), heldRatS, toIntS, and of whole and l3Int.
-/
import Derived.Test.YtkhmepbdjdodmaaDoorVec
import Derived.Test.YtkhmepbdjdodmaaDoorIntS
import Derived.Test.YtkhmepbdjdodmaaDoorOwn2
namespace Go.Proofs.YtkhmepbdjdodmaaDoor
open Go.RowKit

def marksV (k : Int) : Fr := fun i => (k + 2 * (i : Int), k + 2 * (i : Int) + 1)
def markV (V : Fr) (k : Int) (j : Nat) : Fr := fun i => if i < j then marksV k i else V i
theorem markV_zero (V : Fr) (k : Int) : markV V k 0 = V := by funext i; simp [markV]
theorem markV_step (V : Fr) (k : Int) (j : Nat) : upd (markV V k j) j (k + 2 * (j : Int), k + 2 * (j : Int) + 1) = markV V k (j + 1) := by
  funext i
  simp only [upd, markV]
  by_cases h : i = j
  · subst h
    rw [if_pos rfl, if_pos (by omega)]
    rfl
  · rw [if_neg h]
    by_cases h1 : i < j
    · rw [if_pos h1, if_pos (by omega)]
    · rw [if_neg h1, if_neg (by omega)]
theorem markV_all (V : Fr) (k : Int) (n : Nat) : cellsV (markV V k n) n = cellsV (marksV k) n := cellsV_congr fun i hi => by simp [markV, hi]

/-- integers by their index -/
def listI (V : Nat → Int) (n : Nat) : List Int := (List.range n).map V
def cellsI (V : Nat → Int) (n : Nat) : List Value := (listI V n).map (Value.int .i64)
def fillI (V : Nat → Int) (j : Nat) : Nat → Int := fun i => if i < j then V i else 0
theorem listI_length (V : Nat → Int) (n : Nat) : (listI V n).length = n := by simp [listI]
theorem cellsI_at (V : Nat → Int) {n i : Nat} (h : i < n) : (cellsI V n)[i]? = some (.int .i64 (V i)) := by simp [cellsI, listI, h]
theorem fillI_zero (V : Nat → Int) (n : Nat) : cellsI (fillI V 0) n = List.replicate n (.int .i64 0) := by
  apply List.ext_getElem?
  intro i
  by_cases h : i < n
  · rw [cellsI_at _ h]
    simp [fillI, h]
  · rw [List.getElem?_eq_none (by simp [cellsI, listI]; omega), List.getElem?_eq_none (by simp; omega)]
theorem fillI_set (V : Nat → Int) {n j : Nat} : (cellsI (fillI V j) n).set j (.int .i64 (V j)) = cellsI (fillI V (j + 1)) n := by
  apply List.ext_getElem?
  intro i
  by_cases h : i < n
  · rw [List.getElem?_set, cellsI_at _ h, cellsI_at _ h]
    by_cases e : j = i
    · subst e
      rw [if_pos rfl, if_pos (by simpa [cellsI, listI] using h)]
      simp [fillI]
    · rw [if_neg e]
      simp only [fillI]
      by_cases h1 : i < j
      · rw [if_pos h1, if_pos (by omega)]
      · rw [if_neg h1, if_neg (by omega)]
  · rw [List.getElem?_eq_none (by simp [cellsI, listI]; omega), List.getElem?_eq_none (by simp [cellsI, listI]; omega)]
theorem fillI_all (V : Nat → Int) (n : Nat) : cellsI (fillI V n) n = cellsI V n := by
  apply List.ext_getElem?
  intro i
  by_cases h : i < n
  · rw [cellsI_at _ h, cellsI_at _ h]
    simp [fillI, h]
  · rw [List.getElem?_eq_none (by simp [cellsI, listI]; omega), List.getElem?_eq_none (by simp [cellsI, listI]; omega)]
theorem infoInt : (Tryd.prog.info? 3).map (fun i => (i.zero, i.size, i.bytes)) = some (some (.int .i64 0), 1, 8) := by kernel_rfl

theorem whole_any (n : Int) (w : World) : Calls Tryd.prog 54 #[.int .i64 n] w fun e w' => e = .returned (.agg #[.int .i64 n, .int .i64 1]) ∧ Below w.heap.size w w' := by
  go_enter Tryd.func54, Tryd.ntmps54
  go_wp2
  refine bodyPost_ret (v := .agg #[.int .i64 n, .int .i64 1]) (by simp [results, Tryd.results54, go_sem]) rfl ⟨rfl, ?_⟩
  first | exact (Below.refl _ _).alloc (Nat.le_refl _) _ | exact below_set2 ((Below.refl _ _).alloc (Nat.le_refl _) _)

theorem l3Int_any (n : Int) (w : World) : Calls Tryd.prog 74 #[.int .i64 n] w fun e w' => e = .returned (.agg #[.int .i64 n, .int .i64 1]) ∧ Below w.heap.size w w' := by
  go_enter Tryd.func74, Tryd.ntmps74
  go_wp2
  refine bodyPost_ret (v := .agg #[.int .i64 n, .int .i64 1]) (by simp [results, Tryd.results74, go_sem]) rfl ⟨rfl, ?_⟩
  first | exact (Below.refl _ _).alloc (Nat.le_refl _) _ | exact below_set2 ((Below.refl _ _).alloc (Nat.le_refl _) _)

end Go.Proofs.YtkhmepbdjdodmaaDoor
