/-
  Plain laws on fractions: sums and products can be undone, the order agrees with differences; no program in sight.
-/
import Derived.Test.YtajafmdeencohaaRat2Plain
namespace Go.Proofs.Ytajafmdeencohaa.Pl
open Go.RowKit

theorem valid_gcd {n d : Int} (h : valid n d = true) : Int.gcd n d = 1 := by
  simp only [valid, Bool.and_eq_true, beq_iff_eq] at h
  omega
theorem dvd_cop {y x b : Int} (h : y ∣ x * b) (g : Int.gcd x y = 1) : y ∣ b := by
  have h1 : y.natAbs ∣ x.natAbs * b.natAbs := by
    rw [← Int.natAbs_mul]
    exact Int.natAbs_dvd_natAbs.2 h
  have h2 : Nat.Coprime y.natAbs x.natAbs := by
    unfold Nat.Coprime
    rw [Nat.gcd_comm]
    exact g
  exact Int.natAbs_dvd_natAbs.1 (h2.dvd_of_dvd_mul_left h1)
/-- two reduced fractions with the same value are the same -/
theorem valid_same {x y a b : Int} (h1 : valid x y = true) (h2 : valid a b = true) (h : x * b = a * y) : x = a ∧ y = b := by
  have g1 := valid_gcd h1
  have g2 := valid_gcd h2
  obtain ⟨p1, _, _, _⟩ := valid_bounds h1
  obtain ⟨p2, _, _, _⟩ := valid_bounds h2
  have d1 : y ∣ b := by
    have : y ∣ x * b := ⟨a, by rw [h, Int.mul_comm]⟩
    exact dvd_cop this g1
  have d2 : b ∣ y := by
    have : b ∣ a * y := ⟨x, by rw [← h, Int.mul_comm]⟩
    exact dvd_cop this g2
  have e : y = b := Int.dvd_antisymm (by omega) (by omega) d1 d2
  subst e
  exact ⟨Int.eq_of_mul_eq_mul_right (by omega) h, rfl⟩
theorem rat_val {n d : Int} (h : (rat n d).2.2 = true) : (rat n d).1 * d = n * (rat n d).2.1 ∧ d ≠ 0 := by
  unfold rat at h ⊢
  split
  · rename_i hc
    simp only [Bool.and_eq_true] at hc
    have hd : d ≠ 0 := by simpa using hc.1.1.1
    have g1 : sg n d ∣ n := by
      unfold sg
      split
      · exact Int.neg_dvd.2 (Int.gcd_dvd_left ..)
      · exact Int.gcd_dvd_left ..
    have g2 : sg n d ∣ d := by
      unfold sg
      split
      · exact Int.neg_dvd.2 (Int.gcd_dvd_right ..)
      · exact Int.gcd_dvd_right ..
    refine ⟨?_, hd⟩
    obtain ⟨p, hp⟩ := g1
    obtain ⟨q, hq⟩ := g2
    have h0 : sg n d ≠ 0 := by
      intro h0
      rw [h0, Int.zero_mul] at hq
      exact hd hq
    generalize sg n d = s at hp hq h0
    show n.tdiv s * d = n * d.tdiv s
    rw [hp, hq, Int.mul_tdiv_cancel_left _ h0, Int.mul_tdiv_cancel_left _ h0, ← Int.mul_assoc, Int.mul_comm p s]
  · rename_i hc
    rw [if_neg hc] at h
    cases h
theorem add_ok {a b c d : Int} (h : (add a b c d).2.2 = true) : valid a b = true ∧ valid c d = true ∧ add a b c d = rat (a * d + c * b) (b * d) := by
  unfold add at h ⊢
  split
  · rename_i hc
    simp only [Bool.and_eq_true] at hc
    exact ⟨hc.1, hc.2, rfl⟩
  · rename_i hc
    rw [if_neg hc] at h
    cases h
theorem sub_ok {a b c d : Int} (h : (sub' a b c d).2.2 = true) : valid a b = true ∧ valid c d = true ∧ sub' a b c d = rat (a * d - c * b) (b * d) := by
  unfold sub' at h ⊢
  split
  · rename_i hc
    simp only [Bool.and_eq_true] at hc
    exact ⟨hc.1, hc.2, rfl⟩
  · rename_i hc
    rw [if_neg hc] at h
    cases h
theorem mul_ok {a b c d : Int} (h : (mul a b c d).2.2 = true) : valid a b = true ∧ valid c d = true ∧ mul a b c d = rat (a * c) (b * d) := by
  unfold mul at h ⊢
  split
  · rename_i hc
    simp only [Bool.and_eq_true] at hc
    exact ⟨hc.1, hc.2, rfl⟩
  · rename_i hc
    rw [if_neg hc] at h
    cases h
theorem div_ok {a b c d : Int} (h : (div a b c d).2.2 = true) : valid a b = true ∧ valid c d = true ∧ div a b c d = rat (a * d) (b * c) := by
  unfold div at h ⊢
  split
  · rename_i hc
    simp only [Bool.and_eq_true] at hc
    exact ⟨hc.1, hc.2, rfl⟩
  · rename_i hc
    rw [if_neg hc] at h
    cases h

/-- a sum can be undone -/
theorem add_sub {a b c d : Int} (h1 : (add a b c d).2.2 = true) (h2 : (sub' (add a b c d).1 (add a b c d).2.1 c d).2.2 = true) :
    (sub' (add a b c d).1 (add a b c d).2.1 c d).1 = a ∧ (sub' (add a b c d).1 (add a b c d).2.1 c d).2.1 = b := by
  obtain ⟨va, vc, ea⟩ := add_ok h1
  obtain ⟨vs, _, es⟩ := sub_ok h2
  have r1 := rat_val (ea ▸ h1)
  rw [← ea] at r1
  have r2 := rat_val (es ▸ h2)
  have v2 := rat_valid (es ▸ h2)
  rw [← es] at r2 v2
  generalize hx : add a b c d = s at *
  generalize hy : sub' s.1 s.2.1 c d = t at *
  obtain ⟨s1, s2, s3⟩ := s
  obtain ⟨t1, t2, t3⟩ := t
  obtain ⟨pb, _, _, _⟩ := valid_bounds va
  obtain ⟨pd, _, _, _⟩ := valid_bounds vc
  obtain ⟨ps, _, _, _⟩ := valid_bounds vs
  simp only at *
  refine valid_same v2 va ?_
  obtain ⟨r1, _⟩ := r1
  obtain ⟨r2, r3⟩ := r2
  -- r1 : s1 * (b * d) = (a * d + c * b) * s2 ; r2 : t1 * (s2 * d) = (s1 * d - c * s2) * t2
  have k : (t1 * b) * (s2 * d) = (a * t2) * (s2 * d) := by
    have e1 : (t1 * b) * (s2 * d) = (t1 * (s2 * d)) * b := by ac_rfl
    have e2 : (s1 * d - c * s2) * t2 * b = (s1 * (b * d) - c * b * s2) * t2 := by
      simp only [Int.sub_mul]
      congr 1 <;> ac_rfl
    rw [e1, r2, e2, r1, Int.add_mul, Int.add_sub_cancel]
    ac_rfl
  exact Int.eq_of_mul_eq_mul_right r3 k
/-- a product can be undone -/
theorem mul_div {a b c d : Int} (h1 : (mul a b c d).2.2 = true) (h2 : (div (mul a b c d).1 (mul a b c d).2.1 c d).2.2 = true) :
    (div (mul a b c d).1 (mul a b c d).2.1 c d).1 = a ∧ (div (mul a b c d).1 (mul a b c d).2.1 c d).2.1 = b := by
  obtain ⟨va, vc, ea⟩ := mul_ok h1
  obtain ⟨vs, _, es⟩ := div_ok h2
  have r1 := rat_val (ea ▸ h1)
  rw [← ea] at r1
  have r2 := rat_val (es ▸ h2)
  have v2 := rat_valid (es ▸ h2)
  rw [← es] at r2 v2
  generalize hx : mul a b c d = s at *
  generalize hy : div s.1 s.2.1 c d = t at *
  obtain ⟨s1, s2, s3⟩ := s
  obtain ⟨t1, t2, t3⟩ := t
  simp only at *
  refine valid_same v2 va ?_
  obtain ⟨r1, _⟩ := r1
  obtain ⟨r2, r3⟩ := r2
  have k : (t1 * b) * (s2 * c) = (a * t2) * (s2 * c) := by
    have e1 : (t1 * b) * (s2 * c) = (t1 * (s2 * c)) * b := by ac_rfl
    have e2 : s1 * d * t2 * b = (s1 * (b * d)) * t2 := by ac_rfl
    rw [e1, r2, e2, r1]
    ac_rfl
  exact Int.eq_of_mul_eq_mul_right r3 k
/-- the order agrees with the difference's sign -/
theorem cmp_sub {a b c d : Int} (h : (sub' a b c d).2.2 = true) : decide (0 < (sub' a b c d).1) = decide (0 < cmp a b c d) := by
  obtain ⟨va, vc, es⟩ := sub_ok h
  have r := rat_val (es ▸ h)
  have v := rat_valid (es ▸ h)
  rw [← es] at r v
  obtain ⟨r, _⟩ := r
  obtain ⟨pb, _, _, _⟩ := valid_bounds va
  obtain ⟨pd, _, _, _⟩ := valid_bounds vc
  obtain ⟨pt, _, _, _⟩ := valid_bounds v
  generalize hy : sub' a b c d = t at *
  obtain ⟨t1, t2, t3⟩ := t
  simp only at *
  have hbd : 0 < b * d := Int.mul_pos (by omega) (by omega)
  have key : (0 < t1) ↔ (0 < a * d - c * b) := by
    constructor
    · intro h1
      have h2 : 0 < t1 * (b * d) := Int.mul_pos h1 hbd
      rw [r] at h2
      exact Int.pos_of_mul_pos_left h2 (by omega)
    · intro h1
      have h2 : 0 < (a * d - c * b) * t2 := Int.mul_pos h1 (by omega)
      rw [← r] at h2
      exact Int.pos_of_mul_pos_left h2 hbd
  unfold cmp
  rw [va, vc]
  simp only [Bool.and_self, if_true]
  rw [decide_eq_decide, key]
  split
  · omega
  · split <;> omega

end Go.Proofs.Ytajafmdeencohaa.Pl
