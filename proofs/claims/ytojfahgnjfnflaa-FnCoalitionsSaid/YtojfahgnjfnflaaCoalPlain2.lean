/-
  Plain laws on coalitions: unions and overlaps, sizes, texts; no program in sight.
-/
import Derived.Test.YtojfahgnjfnflaaSetsPlain
import Derived.Test.YtojfahgnjfnflaaMembers
import Derived.Test.YtojfahgnjfnflaaParseCoal
namespace Go.Proofs.Ytojfahgnjfnflaa.Pl
open Go.RowKit

theorem all32one (p : Int → Bool) (h : ∀ a : Fin 32, p a.val = true) (a : Int) (h1 : 0 ≤ a) (h2 : a ≤ 31) : p a = true := by
  have := h ⟨a.toNat, by omega⟩
  rw [show ((⟨a.toNat, by omega⟩ : Fin 32).val : Int) = a from by simp; omega] at this
  exact this
theorem within31 {a : Int} (h : within a 0 31 = true) : 0 ≤ a ∧ a ≤ 31 := within_iff.1 h
theorem sub_law {a b : Int} (h : sub a b = true) : union a b = b ∧ over a b = a := by
  simp only [sub, Bool.and_eq_true] at h
  obtain ⟨⟨ha, hb⟩, hs⟩ := h
  obtain ⟨a0, a1⟩ := within31 ha
  obtain ⟨b0, b1⟩ := within31 hb
  have k := all32 (fun a b => !(subTo a b 5) || ((unionTo a b 5 == b) && (overTo a b 5 == a))) (by decide +kernel) a b a0 a1 b0 b1
  simp only [hs, Bool.not_true, Bool.false_or, Bool.and_eq_true, beq_iff_eq] at k
  rw [union, over, ha, hb]
  exact k
theorem union_le (a b : Int) : 0 ≤ union a b ∧ union a b ≤ 160 := by
  unfold union
  split
  · have := unionTo_le a b 5
    omega
  · omega
theorem over_le (a b : Int) : 0 ≤ over a b ∧ over a b ≤ 160 := by
  unfold over
  split
  · have := overTo_le a b 5
    omega
  · omega
theorem sizes {a b : Int} (a0 : 0 ≤ a) (a1 : a ≤ 31) (b0 : 0 ≤ b) (b1 : b ≤ 31) : sizeTo (union a b) 5 + sizeTo (over a b) 5 = sizeTo a 5 + sizeTo b 5 := by
  have k := all32 (fun a b => sizeTo (unionTo a b 5) 5 + sizeTo (overTo a b 5) 5 == sizeTo a 5 + sizeTo b 5) (by decide +kernel) a b a0 a1 b0 b1
  rw [union, over, within_yes a0 a1, within_yes b0 b1]
  simpa using k
theorem fmt_out {s : Int} (h : within s 0 31 = false) : fmt s = [] := by rw [fmt, h]; rfl
theorem parse_out : parseC [] = (0, false) := by decide +kernel
/-- a coalition's text is read back -/
theorem parse_fmt (s : Int) : (parseC (fmt s)).2 = !(fmt s == []) ∧ ((parseC (fmt s)).2 = true → (parseC (fmt s)).1 = s) := by
  cases h : within s 0 31
  · rw [fmt_out h, parse_out]
    exact ⟨rfl, fun h => by cases h⟩
  · obtain ⟨s0, s1⟩ := within31 h
    have k := all32one (fun s => ((parseC (fmt s)).2 == !(fmt s == [])) && ((parseC (fmt s)).1 == s)) (by decide +kernel) s s0 s1
    simp only [Bool.and_eq_true, beq_iff_eq] at k
    exact ⟨k.1, fun _ => k.2⟩
theorem findC_fmt {t : List UInt8} : ∀ {n j : Nat}, findC t n = some j → fmt j = t
  | 0, j, h => by cases h
  | n + 1, j, h => by
    simp only [findC] at h
    cases hf : findC t n with
    | some k =>
      rw [hf] at h
      injection h with h
      subst h
      exact findC_fmt hf
    | none =>
      rw [hf] at h
      by_cases e : fmt n = t
      · simp [e] at h
        subst h
        exact e
      · simp [e] at h
theorem parse_text {t : List UInt8} (h : (parseC t).2 = true) : fmt (parseC t).1 = t := by
  cases hf : findC t 32 with
  | none =>
    rw [parseC_miss hf] at h
    cases h
  | some k =>
    have e : ∀ o, findC t 32 = o → parseC t = (match o with | some j => ((j : Int), true) | none => (0, false)) := fun o h => by
      subst h
      rfl
    have e1 := e _ hf
    have e2 : (parseC t).1 = (k : Int) := congrArg Prod.fst e1
    rw [e2]
    exact findC_fmt hf
def climbing (zs : List Int) : Bool := (List.range (zs.length - 1)).all fun i => decide (zs.getD i 0 < zs.getD (i + 1) 0)
theorem members_climb (s : Int) : climbing (members s) = true := by
  cases h : within s 0 31
  · rw [members, h]
    rfl
  · obtain ⟨s0, s1⟩ := within31 h
    exact all32one (fun s => climbing (members s)) (by decide +kernel) s s0 s1
theorem climbing_at {zs : List Int} (h : climbing zs = true) {i : Nat} (hi : i + 1 < zs.length) : zs[i]'(by omega) < zs[i + 1] := by
  have h1 := List.all_eq_true.1 h i (List.mem_range.2 (by omega))
  simpa [List.getD, List.getElem?_eq_getElem hi, List.getElem?_eq_getElem (show i < zs.length by omega)] using h1
theorem members_len (s : Int) : (members s).length ≤ 5 := by
  unfold members
  split
  · exact memTo_le s 5
  · exact Nat.zero_le _
theorem fmt_len (s : Int) : (fmt s).length ≤ 5 := by
  unfold fmt
  split
  · split
    · decide
    · exact fmtTo_le s 5
  · exact Nat.zero_le _

end Go.Proofs.Ytojfahgnjfnflaa.Pl
