/-
  Contracts of ParseRat, of the program and of the reference.
-/
import Derived.Test.YtkhmepbdjdodmaaDoorFmtRat
import Derived.Test.YtkhmepbdjdodmaaDoorNumW
import Derived.Test.YtkhmepbdjdodmaaDoorSplit
import Derived.Test.YtkhmepbdjdodmaaDoorBox
import Derived.Test.YtkhmepbdjdodmaaDoorRat2
namespace Go.Proofs.YtkhmepbdjdodmaaDoor
open Go.RowKit

namespace Pl
/-- the numerator and the denominator that the text says, if the parts are numbers -/
def parseR (s : ByteArray) : Int × Int × Bool :=
  let zs := split s 47
  let a := parseI (zs.getD 0 ⟨#[]⟩).toList 12
  let b := if 1 < zs.length then parseI (zs.getD 1 ⟨#[]⟩).toList 12 else (1, true)
  if a.2 && b.2 && decide (zs.length ≤ 2) && (fmtR a.1 b.1 == s.toList) then (a.1, b.1, true) else (0, 0, false)
theorem split_pos (s : ByteArray) (b : Int) : 1 ≤ (split s b).length := by simp [split]
theorem pR_bad {s : ByteArray} {zs : List ByteArray} {a b : Int × Bool} (hz : zs = split s 47) (ha : a = parseI (zs.getD 0 ⟨#[]⟩).toList 12) (hb : b = if 1 < zs.length then parseI (zs.getD 1 ⟨#[]⟩).toList 12 else (1, true))
    (h : (a.2 && b.2 && decide (zs.length ≤ 2) && (fmtR a.1 b.1 == s.toList)) = false) : parseR s = (0, 0, false) := by
  subst hz ha hb
  simp only [parseR]
  rw [h]
  rfl
theorem pR_good {s : ByteArray} {zs : List ByteArray} {a b : Int × Bool} (hz : zs = split s 47) (ha : a = parseI (zs.getD 0 ⟨#[]⟩).toList 12) (hb : b = if 1 < zs.length then parseI (zs.getD 1 ⟨#[]⟩).toList 12 else (1, true))
    (h : (a.2 && b.2 && decide (zs.length ≤ 2) && (fmtR a.1 b.1 == s.toList)) = true) : parseR s = (a.1, b.1, true) := by
  subst hz ha hb
  simp only [parseR]
  rw [h]
  rfl
/-- an empty text has no number -/
theorem empty_no {s : ByteArray} (h : (parseI ((split s 47).getD 0 ⟨#[]⟩).toList 12).2 = true) : (s.toList == []) = false := by
  refine beq_eq_false_iff_ne.2 fun e => ?_
  have hs : s.size = 0 := by rw [← size_toList, e]; rfl
  have : s = ⟨#[]⟩ := by
    apply ByteArray.ext
    apply Array.eq_empty_of_size_eq_zero
    exact hs
  subst this
  exact absurd h (by decide +kernel)
theorem split_small (s : ByteArray) (b : Int) : ∀ z ∈ split s b, z.size ≤ s.size := by
  have key : ∀ i, ∀ z ∈ (parts s b i).1, z.size ≤ s.size := by
    intro i
    induction i with
    | zero => intro z hz; cases hz
    | succ i ih =>
      intro z hz
      rw [parts] at hz
      split at hz
      · rw [List.mem_append] at hz
        rcases hz with hz | hz
        · exact ih z hz
        · rw [List.mem_singleton] at hz
          subst hz
          rw [ByteArray.size_extract]
          omega
      · exact ih z hz
  intro z hz
  rw [split, List.mem_append] at hz
  rcases hz with hz | hz
  · exact key _ z hz
  · rw [List.mem_singleton] at hz
    subst hz
    rw [ByteArray.size_extract]
    omega
end Pl
end Go.Proofs.YtkhmepbdjdodmaaDoor
