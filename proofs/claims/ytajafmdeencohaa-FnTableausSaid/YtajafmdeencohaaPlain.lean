/-
  Plain functions on numbers that the program's small functions compute, and their facts; no program in sight.
-/
import Derived.WalkKit
import Derived.Laws.BitsLemmas
namespace Go.Proofs.Ytajafmdeencohaa.Pl
open Go.RowKit

theorem ret_int {k : IntKind} {a b : Int} (h : a = b) : Ending.returned (.int k a) = .returned (.int k b) := by rw [h]
theorem ret_bool {a b : Bool} (h : a = b) : Ending.returned (.bool a) = .returned (.bool b) := by rw [h]

theorem bounds {n : Int} (h : (Lit.int .i64 n).wf = true) : -9223372036854775808 ≤ n ∧ n ≤ 9223372036854775807 := by
  simpa [Lit.wf, IntKind.min, IntKind.max, IntKind.signed, IntKind.bits] using h

/-- 'within', 'l1In' -/
def within (n lo hi : Int) : Bool := decide (lo ≤ n) && decide (n ≤ hi)
theorem within_yes {n lo hi : Int} (h1 : lo ≤ n) (h2 : n ≤ hi) : within n lo hi = true := by simp [within, h1, h2]
theorem within_no {n lo hi : Int} (h : n < lo ∨ hi < n) : within n lo hi = false := by
  rcases h with h | h
  · have : ¬ lo ≤ n := by omega
    simp [within, this]
  · have : ¬ n ≤ hi := by omega
    simp [within, this]
theorem within_iff {n lo hi : Int} : within n lo hi = true ↔ lo ≤ n ∧ n ≤ hi := by simp [within]

/-- 2^n for 0 to 5, else 0 -/
def count (n : Int) : Int := if within n 0 5 then 2 ^ n.toNat else 0

/-- digit k of s -/
def has (s k : Int) : Bool := decide (0 ≤ s) && within k 0 4 && (s / 2 ^ k.toNat % 2 == 1)
theorem has_no {s k : Int} (h : s < 0 ∨ k < 0 ∨ 4 < k) : has s k = false := by
  rcases h with h | h | h
  · have : ¬ 0 ≤ s := by omega
    simp [has, this]
  · simp [has, within_no (lo := 0) (hi := 4) (Or.inl h)]
  · simp [has, within_no (lo := 0) (hi := 4) (Or.inr h)]

theorem count_at : count 0 = 1 ∧ count 1 = 2 ∧ count 2 = 4 ∧ count 3 = 8 ∧ count 4 = 16 ∧ count 5 = 32 := by decide

theorem i64_and1 (n : Int) : bits .and .i64 n 1 = n % 2 := by
  have h1 : (BitVec.ofInt 64 1).toNat = 2 ^ 1 - 1 := by decide
  have key : (BitVec.ofInt 64 n &&& BitVec.ofInt 64 1).toNat = (n % ((2 ^ 64 : Nat) : Int)).toNat % 2 ^ 1 := by
    rw [BitVec.toNat_and, BitVec.toNat_ofInt, h1, Nat.and_two_pow_sub_one_eq_mod]
  show IntKind.i64.wrap ((BitVec.ofInt 64 n &&& BitVec.ofInt 64 1).toNat : Nat) = n % 2
  rw [key, IntKind.wrap_i64]
  omega

end Go.Proofs.Ytajafmdeencohaa.Pl
