/-
  A pivot makes its column a unit column.
-/
import Derived.Test.YtajafmdeencohaaFieldPlain
import Derived.Test.YtajafmdeencohaaPivot
namespace Go.Proofs.Ytajafmdeencohaa
namespace Pl
theorem div_self {a b : Int} (h : (div a b a b).2.2 = true) : (div a b a b).1 = 1 ∧ (div a b a b).2.1 = 1 := by
  obtain ⟨_, _, e⟩ := div_ok h
  rw [e] at h ⊢
  obtain ⟨h1, h2⟩ := rat_val h
  refine valid_same (rat_valid h) (show valid 1 1 = true by decide) ?_
  rw [Int.mul_one, Int.one_mul]
  refine Int.eq_of_mul_eq_mul_right h2 ?_
  rw [h1, Int.mul_comm a b, Int.mul_comm]
theorem sc_zero {x y : Int} {V1 V2 : Fr} {k : Nat} (hx : V1 k = (x, y)) (h2 : V2 k = (1, 1)) (hm : (scM (ng x) y V2 k).2.2 = true) (ha : (scA V1 (ng x) y V2 k).2.2 = true) : scV V1 (ng x) y V2 k = (0, 1) := by
  unfold scA at ha
  rw [hx] at ha
  obtain ⟨v1, _, e⟩ := add_ok ha
  have hb := valid_bounds v1
  have hn : ng x = -x := IntWalk.i64_in _ (by omega)
  have hsc : scV V1 (ng x) y V2 k = ((add x y (scM (ng x) y V2 k).1 (scM (ng x) y V2 k).2.1).1, (add x y (scM (ng x) y V2 k).1 (scM (ng x) y V2 k).2.1).2.1) := by
    rw [scV, scA, hx]
  rw [hsc]
  unfold scM at hm e ⊢
  rw [h2, hn] at hm e ⊢
  have e2 : (add x y (mul (-x) y 1 1).1 (mul (-x) y 1 1).2.1).2.2 = true := by
    unfold scM at ha
    rwa [h2, hn] at ha
  obtain ⟨_, _, em⟩ := mul_ok hm
  rw [em] at hm
  obtain ⟨m1, m2⟩ := rat_val hm
  rw [← em] at m1
  generalize (mul (-x) y 1 1).1 = p at m1 e e2 ⊢
  generalize (mul (-x) y 1 1).2.1 = q at m1 e e2 ⊢
  rw [e] at e2 ⊢
  obtain ⟨a1, a2⟩ := rat_val e2
  have h0 : x * q + p * y = 0 := by
    have : p * y = -(x * q) := by
      rw [Int.mul_one, Int.mul_one] at m1
      rw [m1, Int.neg_mul]
    omega
  rw [h0] at a1 e2 ⊢
  rw [Int.zero_mul] at a1
  have hz : (rat 0 (y * q)).1 = 0 := by
    rcases Int.mul_eq_zero.1 a1 with h | h
    · exact h
    · exact absurd h a2
  have := valid_same (rat_valid e2) (show valid 0 1 = true by decide) (by rw [hz, Int.zero_mul, Int.zero_mul])
  exact Prod.ext this.1 this.2
theorem divAll_at {V : Fr} {x y : Int} {j n : Nat} (h : divAll V x y n = true) (hj : j < n) : (div (V j).1 (V j).2 x y).2.2 = true := by
  cases hb : (div (V j).1 (V j).2 x y).2.2
  · rw [divAll_no hb hj] at h
    cases h
  · rfl
theorem scAll_at {V1 V2 : Fr} {x y : Int} {j n : Nat} (h : scAll V1 x y V2 n = true) (hj : j < n) : (scM x y V2 j).2.2 = true ∧ (scA V1 x y V2 j).2.2 = true := by
  induction n with
  | zero => omega
  | succ n ih =>
    rw [scAll, Bool.and_eq_true, Bool.and_eq_true] at h
    by_cases e : j = n
    · subst e
      exact h.2
    · exact ih h.1 (by omega)
/-- behind a pivot the column is a unit column -/
theorem piv_unit {cols : Int} {arn abn : Nat} {aRN : Nat → Nat} {aBV : Nat → Int} {aRV : Nat → Fr} {row col : Int} (h : pivOk cols arn aRN abn aBV aRV row col = true) :
    ∃ m r k : Nat, row = (r : Int) ∧ col = (k : Int) ∧ r < arn ∧ k < m + arn ∧ (∀ i, i < arn → aRN i = m + arn + 1) ∧ ∀ i, i < arn → pivV aRV r k i k = if i = r then (1, 1) else (0, 1) := by
  simp only [pivOk, Bool.and_eq_true] at h
  obtain ⟨⟨⟨⟨h1, h2⟩, h3⟩, h4⟩, h5⟩ := h
  obtain ⟨m, rfl, _, _, _, hl⟩ := formFacts h1
  have h2 := within_iff.1 h2
  have h3 := within_iff.1 h3
  obtain ⟨r, rfl⟩ : ∃ r : Nat, row = (r : Int) := ⟨row.toNat, by omega⟩
  obtain ⟨k, rfl⟩ : ∃ k : Nat, col = (k : Int) := ⟨col.toNat, by omega⟩
  simp only [Int.toNat_natCast] at h4 h5
  have hd := divAll_at h4 (j := k) (by omega)
  have hD : pivD aRV r k k = (1, 1) := by
    obtain ⟨e1, e2⟩ := div_self hd
    exact Prod.ext e1 e2
  refine ⟨m, r, k, rfl, rfl, by omega, by omega, hl, fun i hi => ?_⟩
  unfold pivV
  by_cases e : i = r
  · rw [if_pos e, if_pos e]
    exact hD
  · rw [if_neg e, if_neg e]
    by_cases e2 : aRV i k = (0, 1)
    · rw [if_pos e2]
      exact e2
    · rw [if_neg e2]
      have h6 := allB_at h5 i hi
      unfold pivRow at h6
      rw [decide_eq_false e, decide_eq_false e2, Bool.false_or, Bool.false_or] at h6
      obtain ⟨hm, ha⟩ := scAll_at h6 (j := k) (by omega)
      exact sc_zero rfl hD hm ha
end Pl
end Go.Proofs.Ytajafmdeencohaa
