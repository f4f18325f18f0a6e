/-
  Plain functions on fractions: reduced fractions, sums, differences, products, quotients, comparison; no program in sight.
-/
import Derived.Test.YtajafmdeencohaaRatPlain
namespace Go.Proofs.Ytajafmdeencohaa.Pl
open Go.RowKit

/-- the greatest common divisor with the sign of the second number -/
def sg (n d : Int) : Int := if d < 0 then -((Int.gcd n d : Nat) : Int) else ((Int.gcd n d : Nat) : Int)
/-- 'RatOf': numerator, denominator, ok -/
def rat (n d : Int) : Int × Int × Bool :=
  if !(d == 0) && within n (-1000000000000000000) 1000000000000000000 && within d (-1000000000000000000) 1000000000000000000 && valid (n.tdiv (sg n d)) (d.tdiv (sg n d)) then (n.tdiv (sg n d), d.tdiv (sg n d), true) else (0, 0, false)
theorem rat_zero (n : Int) : rat n 0 = (0, 0, false) := by simp [rat]
theorem rat_out {n d : Int} (h : (within n (-1000000000000000000) 1000000000000000000 && within d (-1000000000000000000) 1000000000000000000) = false) : rat n d = (0, 0, false) := by
  unfold rat
  rw [Bool.and_assoc (!(d == 0)), h]
  simp
theorem rat_bad {n d : Int} (h : valid (n.tdiv (sg n d)) (d.tdiv (sg n d)) = false) : rat n d = (0, 0, false) := by
  unfold rat
  rw [h]
  simp
theorem rat_good {n d : Int} (h0 : d ≠ 0) (h1 : within n (-1000000000000000000) 1000000000000000000 = true) (h2 : within d (-1000000000000000000) 1000000000000000000 = true) (h : valid (n.tdiv (sg n d)) (d.tdiv (sg n d)) = true) :
    rat n d = (n.tdiv (sg n d), d.tdiv (sg n d), true) := by
  unfold rat
  rw [h, h1, h2]
  simp [h0]
theorem rat_valid {n d : Int} (h : (rat n d).2.2 = true) : valid (rat n d).1 (rat n d).2.1 = true := by
  unfold rat at h ⊢
  split
  · rename_i hc
    simp only [Bool.and_eq_true] at hc
    exact hc.2
  · rename_i hc
    rw [if_neg hc] at h
    cases h
theorem rat_none {n d : Int} (h : (rat n d).2.2 = false) : rat n d = (0, 0, false) := by
  unfold rat at h ⊢
  split
  · rename_i hc
    rw [if_pos hc] at h
    cases h
  · rfl

theorem sg_pos {n d : Int} (h : d ≠ 0) : 1 ≤ (Int.gcd n d : Nat) := by
  have : Int.gcd n d ≠ 0 := by
    rw [Ne, Int.gcd_eq_zero_iff]
    omega
  omega
theorem gcd_le {n d : Int} (h : d ≠ 0) (h1 : -1000000000000000000 ≤ d) (h2 : d ≤ 1000000000000000000) : Int.gcd n d ≤ 1000000000000000000 := by
  have h3 : Int.gcd n d ≤ d.natAbs := by
    unfold Int.gcd
    exact Nat.gcd_le_right _ (by omega)
  omega
theorem tdiv_le (a b M : Int) (ha : -M ≤ a) (hb : a ≤ M) : -M ≤ a.tdiv b ∧ a.tdiv b ≤ M := by
  have h1 : (a.tdiv b).natAbs ≤ a.natAbs := by
    rw [Int.natAbs_tdiv]
    exact Nat.div_le_self _ _
  omega
theorem mul_le (a b M N : Int) (h1 : -M ≤ a) (h2 : a ≤ M) (h3 : -N ≤ b) (h4 : b ≤ N) : -(M * N) ≤ a * b ∧ a * b ≤ M * N := by
  have h5 : (a * b).natAbs ≤ M.natAbs * N.natAbs := by
    rw [Int.natAbs_mul]
    exact Nat.mul_le_mul (by omega) (by omega)
  have h6 : M.natAbs * N.natAbs = (M * N).natAbs := (Int.natAbs_mul M N).symm
  rw [h6] at h5
  have h7 : 0 ≤ M * N := Int.mul_nonneg (by omega) (by omega)
  omega

def add (a b c d : Int) : Int × Int × Bool := if valid a b && valid c d then rat (a * d + c * b) (b * d) else (0, 0, false)
def sub' (a b c d : Int) : Int × Int × Bool := if valid a b && valid c d then rat (a * d - c * b) (b * d) else (0, 0, false)
def mul (a b c d : Int) : Int × Int × Bool := if valid a b && valid c d then rat (a * c) (b * d) else (0, 0, false)
def div (a b c d : Int) : Int × Int × Bool := if valid a b && valid c d then rat (a * d) (b * c) else (0, 0, false)
theorem valid_neg (n d : Int) : valid (-n) d = valid n d := by
  have h : within (-n) (-1000000000) 1000000000 = within n (-1000000000) 1000000000 := by
    unfold within
    rw [Bool.eq_iff_iff]
    simp
    omega
  unfold valid
  rw [h, show Int.gcd (-n) d = Int.gcd n d from by simp [Int.gcd]]
theorem add_neg (a b c d : Int) : add a b (-c) d = sub' a b c d := by
  unfold add sub'
  rw [valid_neg]
  have : a * d + -c * b = a * d - c * b := by rw [Int.neg_mul]; omega
  rw [this]

def cmp (a b c d : Int) : Int := if valid a b && valid c d then (if a * d < c * b then -1 else if c * b < a * d then 1 else 0) else 0
def floor (a b : Int) : Int := if valid a b then (if a.tmod b < 0 then a.tdiv b - 1 else a.tdiv b) else 0

end Go.Proofs.Ytajafmdeencohaa.Pl
