/-
  Plain functions on coalitions as sets of digits: subset, union, overlap, size; no program in sight.
-/
import Derived.Test.YtojfahgnjfnflaaPlain
namespace Go.Proofs.Ytojfahgnjfnflaa.Pl
open Go.RowKit

def subTo (a b : Int) : Nat → Bool
  | 0 => true
  | j + 1 => subTo a b j && !(has a j && !has b j)
theorem subTo_succ (a b : Int) (j : Nat) : subTo a b (j + 1) = (subTo a b j && !(has a j && !has b j)) := rfl
theorem subTo_mono {a b : Int} {i j : Nat} (h : subTo a b i = false) (hij : i ≤ j) : subTo a b j = false := by
  induction j with
  | zero => obtain rfl : i = 0 := by omega
            exact h
  | succ j ih =>
    by_cases e : i = j + 1
    · subst e; exact h
    · rw [subTo_succ, ih (by omega)]; rfl
def sub (a b : Int) : Bool := within a 0 31 && within b 0 31 && subTo a b 5

def unionTo (a b : Int) : Nat → Int
  | 0 => 0
  | j + 1 => unionTo a b j + if has a j || has b j then count j else 0
theorem unionTo_succ (a b : Int) (j : Nat) : unionTo a b (j + 1) = unionTo a b j + if has a j || has b j then count j else 0 := rfl
def overTo (a b : Int) : Nat → Int
  | 0 => 0
  | j + 1 => overTo a b j + if has a j && has b j then count j else 0
theorem overTo_succ (a b : Int) (j : Nat) : overTo a b (j + 1) = overTo a b j + if has a j && has b j then count j else 0 := rfl
theorem count_le (j : Nat) : 0 ≤ count j ∧ count j ≤ 32 := by
  by_cases h : j ≤ 5
  · rcases (show j = 0 ∨ j = 1 ∨ j = 2 ∨ j = 3 ∨ j = 4 ∨ j = 5 from by omega) with rfl | rfl | rfl | rfl | rfl | rfl <;> decide
  · unfold count
    rw [within_no (Or.inr (by omega))]
    exact ⟨by simp, by simp⟩
theorem unionTo_le (a b : Int) (j : Nat) : 0 ≤ unionTo a b j ∧ unionTo a b j ≤ 32 * j := by
  induction j with
  | zero => simp [unionTo]
  | succ j ih =>
    have := count_le j
    rw [unionTo_succ]
    split <;> omega
theorem overTo_le (a b : Int) (j : Nat) : 0 ≤ overTo a b j ∧ overTo a b j ≤ 32 * j := by
  induction j with
  | zero => simp [overTo]
  | succ j ih =>
    have := count_le j
    rw [overTo_succ]
    split <;> omega
def union (a b : Int) : Int := if within a 0 31 && within b 0 31 then unionTo a b 5 else 0
def over (a b : Int) : Int := if within a 0 31 && within b 0 31 then overTo a b 5 else 0

def sizeTo (s : Int) : Nat → Int
  | 0 => 0
  | j + 1 => sizeTo s j + if has s j then 1 else 0
theorem sizeTo_succ (s : Int) (j : Nat) : sizeTo s (j + 1) = sizeTo s j + if has s j then 1 else 0 := rfl
theorem sizeTo_le (s : Int) (j : Nat) : 0 ≤ sizeTo s j ∧ sizeTo s j ≤ j := by
  induction j with
  | zero => simp [sizeTo]
  | succ j ih =>
    rw [sizeTo_succ]
    split <;> omega

theorem all32 (p : Int → Int → Bool) (h : ∀ a b : Fin 32, p a.val b.val = true) (a b : Int) (h1 : 0 ≤ a) (h2 : a ≤ 31) (h3 : 0 ≤ b) (h4 : b ≤ 31) : p a b = true := by
  have := h ⟨a.toNat, by omega⟩ ⟨b.toNat, by omega⟩
  simpa [Int.toNat_of_nonneg h1, Int.toNat_of_nonneg h3] using this
theorem andNot_sub (a b : Int) (h1 : 0 ≤ a) (h2 : a ≤ 31) (h3 : 0 ≤ b) (h4 : b ≤ 31) : (bits .andNot .i64 a b == 0) = subTo a b 5 := by
  have := all32 (fun a b => (bits .andNot .i64 a b == 0) == subTo a b 5) (by decide +kernel) a b h1 h2 h3 h4
  simpa using this
theorem or_union (a b : Int) (h1 : 0 ≤ a) (h2 : a ≤ 31) (h3 : 0 ≤ b) (h4 : b ≤ 31) : bits .or .i64 a b = unionTo a b 5 := by
  have := all32 (fun a b => decide (bits .or .i64 a b = unionTo a b 5)) (by decide +kernel) a b h1 h2 h3 h4
  simpa using this
theorem and_over (a b : Int) (h1 : 0 ≤ a) (h2 : a ≤ 31) (h3 : 0 ≤ b) (h4 : b ≤ 31) : bits .and .i64 a b = overTo a b 5 := by
  have := all32 (fun a b => decide (bits .and .i64 a b = overTo a b 5)) (by decide +kernel) a b h1 h2 h3 h4
  simpa using this

end Go.Proofs.Ytojfahgnjfnflaa.Pl
