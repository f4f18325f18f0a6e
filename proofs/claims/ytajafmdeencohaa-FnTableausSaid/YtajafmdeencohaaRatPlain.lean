/-
  Plain functions on fractions: what the program's functions on Rat compute; no program in sight.
-/
import Derived.Test.YtajafmdeencohaaPlain
namespace Go.Proofs.Ytajafmdeencohaa.Pl
open Go.RowKit

theorem gcd_step (a b : Int) : Int.gcd b (a.tmod b) = Int.gcd a b := by
  unfold Int.gcd
  rw [Int.natAbs_tmod, Nat.gcd_comm, Nat.gcd_comm a.natAbs, ← Nat.gcd_rec]

theorem gcd_stepN (x y : Nat) : Int.gcd (y : Int) ((x % y : Nat) : Int) = Int.gcd (x : Int) (y : Int) := by
  simp only [Int.gcd, Int.natAbs_natCast]
  rw [Nat.gcd_comm, Nat.gcd_comm x, ← Nat.gcd_rec]

theorem gcd_zero (a : Int) : ((Int.gcd a 0 : Nat) : Int) = max a (-a) := by
  unfold Int.gcd
  simp
  omega

theorem tmod_lt (a b : Int) (h : b ≠ 0) : (a.tmod b).natAbs < b.natAbs := by
  rw [Int.natAbs_tmod]
  exact Nat.mod_lt _ (by omega)

theorem tmod_le (a b M : Int) (ha : -M ≤ a) (hb : a ≤ M) : -M ≤ a.tmod b ∧ a.tmod b ≤ M := by
  have h1 : (a.tmod b).natAbs ≤ a.natAbs := by
    rw [Int.natAbs_tmod]
    exact Nat.mod_le _ _
  omega

/-- 'IsValidRat' -/
def valid (n d : Int) : Bool := within d 1 1000000000 && within n (-1000000000) 1000000000 && (((Int.gcd n d : Nat) : Int) == 1)
theorem valid_no1 {n d : Int} (h : d < 1 ∨ 1000000000 < d) : valid n d = false := by simp [valid, within_no h]
theorem valid_no2 {n d : Int} (h : n < -1000000000 ∨ 1000000000 < n) : valid n d = false := by simp [valid, within_no h]
theorem valid_in {n d : Int} (h1 : 1 ≤ d) (h2 : d ≤ 1000000000) (h3 : -1000000000 ≤ n) (h4 : n ≤ 1000000000) : valid n d = (((Int.gcd n d : Nat) : Int) == 1) := by
  simp [valid, within_yes h1 h2, within_yes h3 h4]
theorem valid_bounds {n d : Int} (h : valid n d = true) : 1 ≤ d ∧ d ≤ 1000000000 ∧ -1000000000 ≤ n ∧ n ≤ 1000000000 := by
  simp only [valid, Bool.and_eq_true, within_iff] at h
  exact ⟨h.1.1.1, h.1.1.2, h.1.2.1, h.1.2.2⟩

end Go.Proofs.Ytajafmdeencohaa.Pl
