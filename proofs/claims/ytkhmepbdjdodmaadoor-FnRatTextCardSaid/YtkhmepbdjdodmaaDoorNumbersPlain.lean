/-
  Plain laws on numbers and their texts: a text of an integer is read back, a number that was read has the text; no program in sight.
-/
import Derived.Test.YtkhmepbdjdodmaaDoorNumPlain
import Derived.Test.YtkhmepbdjdodmaaDoorNumS
namespace Go.Proofs.YtkhmepbdjdodmaaDoor.Pl
open Go.RowKit

theorem dec_head (n : Nat) : (Lib.decDigits n).head? ≠ some 45 := by
  obtain ⟨h1, h2, _, _⟩ := dec_ok n
  generalize Lib.decDigits n = l at h1 h2
  cases l with
  | nil => simp
  | cons c l =>
    intro h
    have : c = 45 := by simpa using h
    subst this
    simp [allDig, isDig] at h1
theorem dec_okDig (n most : Nat) : okDig (Lib.decDigits n) most = decide ((Lib.decDigits n).length ≤ most) := by
  obtain ⟨h1, h2, h3, _⟩ := dec_ok n
  rw [Bool.eq_iff_iff, okDig_iff, decide_eq_true_eq]
  constructor
  · intro h; exact h.2.1
  · intro h
    refine ⟨h2, h, ?_, h1⟩
    rcases h3 with ⟨_, h4⟩ | h4
    · left
      rw [h4]
      rfl
    · exact Or.inr h4
theorem parseI_itoa (n : Int) : (parseI (Lib.itoa n) 12).2 = (decide ((Lib.itoa n).length ≤ 12) || (decide (n < 0) && decide ((Lib.itoa n).length ≤ 13))) ∧ ((parseI (Lib.itoa n) 12).2 = true → (parseI (Lib.itoa n) 12).1 = n) := by
  by_cases h : 0 ≤ n
  · obtain ⟨k, rfl⟩ : ∃ k : Nat, n = k := ⟨n.toNat, by omega⟩
    rw [itoa_nat]
    have hn : neg (Lib.decDigits k) = false := by
      rw [neg]
      simpa using dec_head k
    have hv := (dec_ok k).2.2.2
    rw [parseI, pos_form hn, hn, dec_okDig]
    simp only [Bool.false_and, Bool.not_false, Bool.and_true, Bool.false_eq_true, if_false, hv]
    rw [show decide ((k : Int) < 0) = false from decide_eq_false (by omega), Bool.false_and, Bool.or_false]
    split
    · rename_i h1
      exact ⟨h1.symm, fun _ => rfl⟩
    · rename_i h1
      simp only [Bool.not_eq_true] at h1
      exact ⟨h1.symm, fun h2 => by cases h2⟩
  · obtain ⟨k, rfl⟩ : ∃ k : Nat, n = -(k : Int) := ⟨n.natAbs, by omega⟩
    rw [itoa_negN k (by omega)]
    have hn : neg (45 :: Lib.decDigits k) = true := rfl
    have hs : strip (45 :: Lib.decDigits k) = Lib.decDigits k := rfl
    have hv := (dec_ok k).2.2.2
    have h0 : (k == 0) = false := beq_eq_false_iff_ne.2 (by omega)
    rw [parseI, hs, hn, dec_okDig, hv, h0]
    simp only [Bool.true_and, Bool.not_false, Bool.and_true, if_true, List.length_cons]
    rw [show decide (-(k : Int) < 0) = true from decide_eq_true (by omega), Bool.true_and]
    have e : (decide ((Lib.decDigits k).length + 1 ≤ 12) || decide ((Lib.decDigits k).length + 1 ≤ 13)) = decide ((Lib.decDigits k).length ≤ 12) := by
      rw [Bool.eq_iff_iff]
      simp only [Bool.or_eq_true, decide_eq_true_eq]
      omega
    rw [e]
    split
    · rename_i h1
      exact ⟨h1.symm, fun _ => rfl⟩
    · rename_i h1
      simp only [Bool.not_eq_true] at h1
      exact ⟨h1.symm, fun h2 => by cases h2⟩
theorem parseN_text {l : List UInt8} (h : (parseN l).2 = true) : Lib.itoa (parseN l).1 = l ∧ 0 ≤ (parseN l).1 := by
  cases ho : okDig l 6
  · rw [parseN, ho] at h
    cases h
  · rw [parseN, ho]
    simp only [if_true]
    rw [itoa_nat]
    exact ⟨okDig_dec ho, by omega⟩
theorem parseN_small (l : List UInt8) : 0 ≤ (parseN l).1 ∧ (parseN l).1 ≤ 1000000 := by
  cases ho : okDig l 6
  · rw [parseN, ho]
    exact ⟨Int.le_refl 0, show (0 : Int) ≤ 1000000 by decide⟩
  · rw [parseN, ho]
    simp only [if_true]
    obtain ⟨_, h2, _, h4⟩ := okDig_iff.1 ho
    have h1 := val_lt _ h4
    have h3 : (10 : Nat) ^ l.length ≤ 10 ^ 6 := Nat.pow_le_pow_right (by decide) h2
    omega

end Go.Proofs.YtkhmepbdjdodmaaDoor.Pl
